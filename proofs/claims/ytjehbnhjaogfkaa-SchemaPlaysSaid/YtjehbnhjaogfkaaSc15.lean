import Derived.Test.YtjehbnhjaogfkaaMa
import Derived.Laws.Externs
namespace Go.Proofs.Ytjehbnhjaogfkaa.Sc
open Go.RowKit Go.Lib Go.Proofs.YtjehbnhjaogfkaaW.PrintWords Go.Proofs.YtjehbnhjaogfkaaW.PrintLast Go.Proofs.YtjehbnhjaogfkaaW.PrintMore
open Go.Proofs.Ytjehbnhjaogfkaa
set_option linter.unusedVariables false
set_option linter.unusedSimpArgs false
theorem bits_run (n : Nat) (w : World) : (callFunc 84 #[.float .f64 n]).run Try.prog w = .ok (.value (.int .u64 n)) w := by
  rw [run_callFunc_extern (e := Extern.MathFloatBits.float64bits) Try.func84 (by kernel_rfl) (by kernel_rfl) (by kernel_rfl) (by kernel_rfl)]
  rfl
theorem zero_walk (W : World) : Calls Try.prog 83 #[.complex .f64 0 0] W fun e w' => e = .returned (.bool true) ∧ W = w' := by
  have hb := bits_run
  go_enter Try.func83, Try.ntmps83
  go_wp2_with fail
  go_ret
  exact ⟨rfl, rfl⟩
theorem nan0 : (FloatKind.f64.format.order 0 0 != some Ordering.eq) = false := by kernel_rfl
theorem nan_walk (W : World) : Calls Try.prog 82 #[.float .f64 0] W fun e w' => e = .returned (.bool false) ∧ W = w' := by
  go_enter Try.func82, Try.ntmps82
  go_wp2_with fail
  rw [nan0]
  go_ret
  exact ⟨rfl, rfl⟩
theorem is_walk (k n : Int) (hk : k = 2 ∧ n = 5 ∨ k = 0 ∧ n = 0) (W : World) : Calls Try.prog 65 #[.agg #[.int .i64 k, .int .i64 n, .complex .f64 0 0, .string ⟨#[]⟩]] W fun e w' => e = .returned (.bool true) ∧ Below W.heap.size W w' := by
  rcases hk with ⟨rfl, rfl⟩ | ⟨rfl, rfl⟩
  all_goals (
    go_enter Try.func65, Try.ntmps65
    go_wp2_with (first | (go_at_call 82; refine (nan_walk _).mono ?_; rintro e w1 ⟨rfl, rfl⟩) | (go_at_call 83; refine (zero_walk _).mono ?_; rintro e w1 ⟨rfl, rfl⟩)))
  · go_ret
    exact ⟨rfl, below_alloc (Below.refl _ _) _⟩
  · go_ret
    exact ⟨rfl, below_alloc (Below.refl _ _) _⟩
theorem run_store_cx {P : Program} {w : World} {a : Addr} {m : Mode} (k : FloatKind) (x y : Nat) : (store a (.complex k x y) m).run P w = stored P w a (.complex k x y) m := run_store P w a _ m rfl
attribute [local go_sem] run_store_cx
/-- A row of two fixed values: a whole number 5 and null (k = 2), or null twice. -/
def vrow (k n : Int) : Array Value := #[.int .i64 k, .int .i64 n, .complex .f64 0 0, .string ⟨#[]⟩, .int .i64 0, .int .i64 0, .complex .f64 0 0, .string ⟨#[]⟩]
theorem vcheck_walk (k n : Int) (hk : k = 2 ∧ n = 5 ∨ k = 0 ∧ n = 0) (W : World) (r : Nat) (hr : W.heap[r]? = some (.cells (vrow k n) 71 (0, 0))) :
    Calls Try.prog 45 #[.slice (some ⟨r, 0, none⟩) 2 2] W fun e w' => e = .returned (.tuple #[.int .i64 0, .int .i64 0]) ∧ Below W.heap.size W w' := by
  have HR := Aside0.mk hr
  have HK := Aside0.mk hk
  clear hr hk
  go_enter Try.func45, Try.ntmps45
  go_wp2_with fail
  go_loopg [11] 3 (fun kq v11 w' => ∃ j : Nat, v11 = .int .i64 (j : Int) ∧ Aside0 (j + kq = 3 ∧ j ≤ 2) ∧ Aside0 (Below W.heap.size W w'))
  case atStart => exact ⟨0, rfl, ⟨by omega, by omega⟩, ⟨Below.refl _ _⟩⟩
  case round =>
    obtain ⟨j, rfl, HJ, HB⟩ := hrel
    have hbr := HB.out.size
    have hrow : wr.heap[r]? = some (.cells (vrow k n) 71 (0, 0)) := (HB.out.block r (blk_lt HR.out)).trans HR.out
    by_cases hj : j < 2
    · obtain ⟨kq1, rfl⟩ : ∃ kq1, gk = kq1 + 1 := ⟨gk - 1, by have := HJ.out; omega⟩
      have hji : (j : Int) < 2 := by omega
      rcases (show j = 0 ∨ j = 1 by omega) with rfl | rfl
      · have x0 : wr.cell? ⟨r, 0, none⟩ = some (.int .i64 k) := (blk_cell hrow 0).trans rfl
        have x1 : wr.cell? ⟨r, 1, none⟩ = some (.int .i64 n) := (blk_cell hrow 1).trans rfl
        have x2 : wr.cell? ⟨r, 2, none⟩ = some (.complex .f64 0 0) := (blk_cell hrow 2).trans rfl
        have x3 : wr.cell? ⟨r, 3, none⟩ = some (.string ⟨#[]⟩) := (blk_cell hrow 3).trans rfl
        clear hrow hj
        go_wp2_with (go_at_call 65; refine (is_walk k n HK.out _).mono ?_; rintro e w1 ⟨rfl, hb1⟩; have HB1 := Aside0.mk (step (step HB.out (below_alloc (Below.refl _ _) _)) hb1); clear hb1)
        go_roundg kq1
        case measure => have := HJ.out; omega
        case rel => exact ⟨1, by go_num, ⟨by have := HJ.out; omega, by omega⟩, HB1⟩
      · have x0 : wr.cell? ⟨r, 4, none⟩ = some (.int .i64 0) := (blk_cell hrow 4).trans rfl
        have x1 : wr.cell? ⟨r, 5, none⟩ = some (.int .i64 0) := (blk_cell hrow 5).trans rfl
        have x2 : wr.cell? ⟨r, 6, none⟩ = some (.complex .f64 0 0) := (blk_cell hrow 6).trans rfl
        have x3 : wr.cell? ⟨r, 7, none⟩ = some (.string ⟨#[]⟩) := (blk_cell hrow 7).trans rfl
        clear hrow hj
        go_wp2_with (go_at_call 65; refine (is_walk 0 0 (.inr ⟨rfl, rfl⟩) _).mono ?_; rintro e w1 ⟨rfl, hb1⟩; have HB1 := Aside0.mk (step (step HB.out (below_alloc (Below.refl _ _) _)) hb1); clear hb1)
        go_roundg kq1
        case measure => have := HJ.out; omega
        case rel => exact ⟨2, by go_num, ⟨by have := HJ.out; omega, by omega⟩, HB1⟩
    · have hji : ¬ (j : Int) < 2 := by omega
      clear hrow
      go_wp2_with fail
      go_ret2
      exact ⟨rfl, HB.out⟩
/-- The example's schema. -/
def tw : Tb := ⟨⟨#[116]⟩, [⟨⟨#[97]⟩, 2⟩, ⟨⟨#[98]⟩, 5⟩], 1, [⟨⟨#[105]⟩, [1], false⟩]⟩
theorem chk_tw : chk tw = true := by kernel_rfl
set_option maxRecDepth 100000 in
set_option maxHeartbeats 4000000 in
theorem fits_walk (k n : Int) (hk : k = 2 ∧ n = 5 ∨ k = 0 ∧ n = 0) (W : World) (ab : Nat) (B : Addr) (ha : W.heap[ab]? = some (.cells #[.string ⟨#[97]⟩, .int .i64 2, .string ⟨#[98]⟩, .int .i64 5] 32 (0, 0))) (hA : kcol.C W (some ⟨ab, 0, none⟩) 2 tw.cols) (hB : kix.C W (some B) 1 tw.ixs) (r : Nat) (hr : W.heap[r]? = some (.cells (vrow k n) 71 (0, 0))) :
    Calls Try.prog 27 #[.agg #[.string ⟨#[116]⟩, .slice (some ⟨ab, 0, none⟩) 2 2, .int .i64 1, .slice (some B) 1 1], .slice (some ⟨r, 0, none⟩) 2 2] W fun e w' => e = .returned (.int .i64 (if k = 2 then 0 else 150)) ∧ Below W.heap.size W w' := by
  obtain ⟨g, hg⟩ : ∃ g, W.heap.size = g := ⟨_, rfl⟩
  have HG := Aside0.mk hg
  have HAb := Aside0.mk ha
  have HA := Aside0.mk hA
  have HB := Aside0.mk hB
  have HR := Aside0.mk hr
  have HK := Aside0.mk hk
  have HX0 := tbBox_made W (.string ⟨#[116]⟩) (.slice (some ⟨ab, 0, none⟩) 2 2) (.int .i64 1) (.slice (some B) 1 1) 30
  rw [hg] at HX0
  have HX := Aside0.mk HX0
  have HB0 := Aside0.mk (below_alloc (Below.refl W.heap.size W) (.cells #[.string ⟨#[116]⟩, .slice (some ⟨ab, 0, none⟩) 2 2, .int .i64 1, .slice (some B) 1 1] 30))
  clear ha hA hB hr hk HX0
  have hc := chk_tw
  go_enter Try.func27, Try.ntmps27
  go_upto_region 8 with (first
    | (go_at_call 19; refine (chk_walk _ tw (some ⟨ab, 0, none⟩) 2 (some B) 1 (Kd.C_below HA.out HB0.out) (Nat.le_refl _) (Kd.C_below HB.out HB0.out) (Nat.le_refl _) (by decide) (by decide) (by decide) (by decide) (by decide) (by decide)).mono ?_; rw [hc]; rintro e w1 ⟨rfl, hb1⟩; have hb1' := step HB0.out hb1; have hx1 := HX.out.keep hb1 HX.out.lt; have HB1 := Aside0.mk hb1'; have HX1 := Aside0.mk hx1; clear hb1 hb1' hx1)
    | (go_at_call 45; refine (vcheck_walk k n HK.out _ r ((HB1.out.block r (blk_lt HR.out)).trans HR.out)).mono ?_; rintro e w2 ⟨rfl, hb2⟩; have hx2 := HX1.out.keep hb2 HX1.out.lt; have c1 := hx2.c1; have HB2 := Aside0.mk (step HB1.out hb2); have HX2 := Aside0.mk hx2; clear hb2 hx2))
  have hkk := HK.out
  clear c1 hg hc
  go_loopg [33] 3 (fun kq v33 w' => ∃ j : Nat, v33 = .int .i64 (j : Int) ∧ Aside0 (j + kq = 3 ∧ j ≤ 2 ∧ (0 < j → k = 2)) ∧ Aside0 (Below W.heap.size W w') ∧ Aside0 (TbBox w' g (.string ⟨#[116]⟩) (.slice (some ⟨ab, 0, none⟩) 2 2) (.int .i64 1) (.slice (some B) 1 1)))
  case atStart => exact ⟨0, rfl, ⟨by omega, by omega, by omega⟩, HB2, HX2⟩
  case round =>
    clear HB2 HX2
    obtain ⟨j, rfl, HJ, HBr, HXr⟩ := hrel
    have hrow : wr.heap[r]? = some (.cells (vrow k n) 71 (0, 0)) := (HBr.out.block r (blk_lt HR.out)).trans HR.out
    by_cases hj : j < 2
    · obtain ⟨kq1, rfl⟩ : ∃ kq1, gk = kq1 + 1 := ⟨gk - 1, by have := HJ.out; omega⟩
      have hji : (j : Int) < 2 := by omega
      rcases (show j = 0 ∨ j = 1 by omega) with rfl | rfl
      · rcases hkk with ⟨rfl, rfl⟩ | ⟨rfl, rfl⟩
        · skip
          have x0 : wr.cell? ⟨r, 0, none⟩ = some (.int .i64 2) := (blk_cell hrow 0).trans rfl
          have x1 : wr.cell? ⟨r, 1, none⟩ = some (.int .i64 5) := (blk_cell hrow 1).trans rfl
          have x2 : wr.cell? ⟨r, 2, none⟩ = some (.complex .f64 0 0) := (blk_cell hrow 2).trans rfl
          have x3 : wr.cell? ⟨r, 3, none⟩ = some (.string ⟨#[]⟩) := (blk_cell hrow 3).trans rfl
          have HBa := Aside0.mk (step HBr.out (below_alloc (Below.refl wr.heap.size wr) (.cells #[.int .i64 2, .int .i64 5, .complex .f64 0 0, .string ⟨#[]⟩] 71)))
          have HXa := Aside0.mk (HXr.out.keep (below_alloc (Below.refl wr.heap.size wr) (.cells #[.int .i64 2, .int .i64 5, .complex .f64 0 0, .string ⟨#[]⟩] 71)) HXr.out.lt)
          have HYa := Aside0.mk (show (wr.alloc (.cells #[.int .i64 2, .int .i64 5, .complex .f64 0 0, .string ⟨#[]⟩] 71)).cell? ⟨wr.heap.size, 0, none⟩ = some (.int .i64 2) from by rw [World.cell?_alloc_new]; rfl)
          clear hrow hj
          go_upto_region 11 with fail
          clear x0 x1 x2 x3
          generalize wr.alloc (.cells #[.int .i64 2, .int .i64 5, .complex .f64 0 0, .string ⟨#[]⟩] 71) = w3 at *
          have t1 := HXa.out.c1
          have t2 := HXa.out.c2
          have t3 := HYa.out
          have t4 : w3.cell? ⟨ab, 1, none⟩ = some (.int .i64 2) := (blk_cell ((HBa.out.block ab (blk_lt HAb.out)).trans HAb.out) 1).trans rfl
          go_region
          go_wp2_with fail
          go_roundg kq1
          case measure => have := HJ.out; omega
          
          case rel => exact ⟨1, by go_num, ⟨by have := HJ.out; omega, by omega, fun _ => trivial⟩, ⟨below_drew HBa.out⟩, ⟨HXa.out.keep (below_drew (Below.refl _ _)) HXa.out.lt⟩⟩
        · skip
          have x0 : wr.cell? ⟨r, 0, none⟩ = some (.int .i64 0) := (blk_cell hrow 0).trans rfl
          have x1 : wr.cell? ⟨r, 1, none⟩ = some (.int .i64 0) := (blk_cell hrow 1).trans rfl
          have x2 : wr.cell? ⟨r, 2, none⟩ = some (.complex .f64 0 0) := (blk_cell hrow 2).trans rfl
          have x3 : wr.cell? ⟨r, 3, none⟩ = some (.string ⟨#[]⟩) := (blk_cell hrow 3).trans rfl
          have HBa := Aside0.mk (step HBr.out (below_alloc (Below.refl wr.heap.size wr) (.cells #[.int .i64 0, .int .i64 0, .complex .f64 0 0, .string ⟨#[]⟩] 71)))
          have HXa := Aside0.mk (HXr.out.keep (below_alloc (Below.refl wr.heap.size wr) (.cells #[.int .i64 0, .int .i64 0, .complex .f64 0 0, .string ⟨#[]⟩] 71)) HXr.out.lt)
          have HYa := Aside0.mk (show (wr.alloc (.cells #[.int .i64 0, .int .i64 0, .complex .f64 0 0, .string ⟨#[]⟩] 71)).cell? ⟨wr.heap.size, 0, none⟩ = some (.int .i64 0) from by rw [World.cell?_alloc_new]; rfl)
          clear hrow hj
          go_upto_region 11 with fail
          clear x0 x1 x2 x3
          generalize wr.alloc (.cells #[.int .i64 0, .int .i64 0, .complex .f64 0 0, .string ⟨#[]⟩] 71) = w3 at *
          have t1 := HXa.out.c1
          have t2 := HXa.out.c2
          have t3 := HYa.out
          have t4 : w3.cell? ⟨ab, 1, none⟩ = some (.int .i64 2) := (blk_cell ((HBa.out.block ab (blk_lt HAb.out)).trans HAb.out) 1).trans rfl
          go_region
          go_wp2_with fail
          go_ret
          exact ⟨rfl, below_drew HBa.out⟩
      · obtain rfl := HJ.out.2.2 (by decide)
        have x0 : wr.cell? ⟨r, 4, none⟩ = some (.int .i64 0) := (blk_cell hrow 4).trans rfl
        have x1 : wr.cell? ⟨r, 5, none⟩ = some (.int .i64 0) := (blk_cell hrow 5).trans rfl
        have x2 : wr.cell? ⟨r, 6, none⟩ = some (.complex .f64 0 0) := (blk_cell hrow 6).trans rfl
        have x3 : wr.cell? ⟨r, 7, none⟩ = some (.string ⟨#[]⟩) := (blk_cell hrow 7).trans rfl
        have HBa := Aside0.mk (step HBr.out (below_alloc (Below.refl wr.heap.size wr) (.cells #[.int .i64 0, .int .i64 0, .complex .f64 0 0, .string ⟨#[]⟩] 71)))
        have HXa := Aside0.mk (HXr.out.keep (below_alloc (Below.refl wr.heap.size wr) (.cells #[.int .i64 0, .int .i64 0, .complex .f64 0 0, .string ⟨#[]⟩] 71)) HXr.out.lt)
        have HYa := Aside0.mk (show (wr.alloc (.cells #[.int .i64 0, .int .i64 0, .complex .f64 0 0, .string ⟨#[]⟩] 71)).cell? ⟨wr.heap.size, 0, none⟩ = some (.int .i64 0) from by rw [World.cell?_alloc_new]; rfl)
        clear hrow hj
        go_upto_region 11 with fail
        clear x0 x1 x2 x3
        generalize wr.alloc (.cells #[.int .i64 0, .int .i64 0, .complex .f64 0 0, .string ⟨#[]⟩] 71) = w3 at *
        have t1 := HXa.out.c1
        have t2 := HXa.out.c2
        have t3 := HYa.out
        have t4 : w3.cell? ⟨ab, 3, none⟩ = some (.int .i64 5) := (blk_cell ((HBa.out.block ab (blk_lt HAb.out)).trans HAb.out) 3).trans rfl
        go_region
        go_wp2_with fail
        go_roundg kq1
        case measure => have := HJ.out; omega
        
        case rel => exact ⟨2, by go_num, ⟨by have := HJ.out; omega, by omega, fun _ => trivial⟩, ⟨below_drew HBa.out⟩, ⟨HXa.out.keep (below_drew (Below.refl _ _)) HXa.out.lt⟩⟩
    · have hji : ¬ (j : Int) < 2 := by omega
      obtain rfl := HJ.out.2.2 (by omega)
      clear hrow
      go_wp2_with fail
      go_ret
      exact ⟨rfl, HBr.out⟩
end Go.Proofs.Ytjehbnhjaogfkaa.Sc
