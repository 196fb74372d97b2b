-- PRINTED BY print.sh 35421559b90ae4d0a3588c463048766b98c2df88dd9212a6774a882060cdf62d: not written by this session
import Derived.Test.YtmfbmagbpceomaaPTidPartsx0
import Derived.Test.YtmfbmagbpceomaaPTidPartsx1
namespace Go.Proofs.Ytmfbmagbpceomaa.PTidParts
open Go.RowKit Go.Proofs.YtmfbmagbpceomaaW.PrintWords Go.Proofs.YtmfbmagbpceomaaW.PrintLast Go.Proofs.YtmfbmagbpceomaaW.PrintMore
attribute [local go_sem] max2_int min2_int max_two min_two max_three min_three max_four min_four   -- for this text's walks alone
set_option linter.unusedVariables false
set_option linter.unusedSimpArgs false

/-! ### hopperlaw09_TidParts: function 6 -/
def hopperlaw09_TidParts.j0 : Nat → Int → Bool → Option (Bool)
  | 0, _, _ => none
  | k + 1, x1, x59 => if x59 = true then (some false) else ((tid_Unpack.f x1).bind fun bt142 => ((hopperref09_May.f x1).bind fun t148 => (if t148 = true then (if bt142.2.2.2.2.2 = 0 then ((hopperref09_Epoch.f x1).bind fun t149 => (if (IntKind.u64.wrap (bt142.1)) = t149 then ((hopperref09_Seq.f x1).bind fun t150 => (if bt142.2.1 = t150 then (if (bt142.2.2.1 == ((Int.tmod x1 2) == 1)) = true then (if (bt142.2.2.2.1 == ((Int.tmod (IntKind.u64.wrap (Int.tdiv x1 2)) 2) == 1)) = true then (if (bt142.2.2.2.2.1 == ((Int.tmod (IntKind.u64.wrap (Int.tdiv x1 4)) 2) == 1)) = true then ((hopperlaw09_works.f k).bind fun t151 => (some t151)) else (some false)) else (some false)) else (some false)) else (some false))) else (some false))) else (some false)) else (if bt142.2.2.2.2.2 = 90 then (if bt142.1 = 0 then (if bt142.2.1 = 0 then (if bt142.2.2.1 = true then (some false) else (if bt142.2.2.2.1 = true then (some false) else (if bt142.2.2.2.2.1 = true then (some false) else ((hopperlaw09_works.f k).bind fun t152 => (some t152))))) else (some false)) else (some false)) else (some false)))))
def hopperlaw09_TidParts.f (k : Nat) (a0_0 : Int) (a0_1 : Int) (a0_2 : Bool) (a0_3 : Bool) (a0_4 : Bool) (a1 : Int) : Option (Bool) := (tid_Pack.f k a0_0 a0_1 a0_2 a0_3 a0_4).bind fun bt136 => ((hopperref09_Pack.f a0_0 a0_1 a0_2 a0_3 a0_4).bind fun bt138 => (if bt136.1 = bt138.1 then (if bt136.2 = bt138.2 then ((tid_Number.f a1).bind fun t140 => ((hopperref09_Number.f a1).bind fun t141 => (hopperlaw09_TidParts.j0 k a1 (t140 != t141)))) else (hopperlaw09_TidParts.j0 k a1 true)) else (hopperlaw09_TidParts.j0 k a1 true)))
theorem hopperlaw09_TidParts.mono_l : ∀ k, (∀ y0 y1, LeO (hopperlaw09_TidParts.j0 k y0 y1) (hopperlaw09_TidParts.j0 (k + 1) y0 y1))
  | 0 => fun _ _ r h => by simp [hopperlaw09_TidParts.j0] at h
  | k + 1 => by
    have ih0 := hopperlaw09_TidParts.mono_l k
    · intro y0 y1
      unfold hopperlaw09_TidParts.j0
      repeat' first
      | (with_reducible exact ih0 _ _)
      | (with_reducible exact hopperlaw09_works.mono _)
      | (with_reducible exact tid_Pack.mono _ _ _ _ _ _)
      | (with_reducible exact LeO.refl _)
      | (with_reducible exact LeO.none _)
      | (with_reducible refine LeO.ite ?_ ?_)
      | (with_reducible refine LeO.bind ?_ (fun _ => ?_))
      | exact ih0 _ _
      | exact hopperlaw09_works.mono _
      | exact tid_Pack.mono _ _ _ _ _ _
      | exact LeO.none _
      | refine LeO.ite ?_ ?_
      | refine LeO.bind ?_ (fun _ => ?_)
theorem hopperlaw09_TidParts.mono : ∀ a0 a1 a2 a3 a4 a5 k, LeO (hopperlaw09_TidParts.f k a0 a1 a2 a3 a4 a5) (hopperlaw09_TidParts.f (k + 1) a0 a1 a2 a3 a4 a5) := by
  intro a0 a1 a2 a3 a4 a5 k
  have ih0 := hopperlaw09_TidParts.mono_l k
  unfold hopperlaw09_TidParts.f
  repeat' first
      | (with_reducible exact ih0 _ _)
      | (with_reducible exact hopperlaw09_works.mono _)
      | (with_reducible exact tid_Pack.mono _ _ _ _ _ _)
      | (with_reducible exact LeO.refl _)
      | (with_reducible exact LeO.none _)
      | (with_reducible refine LeO.ite ?_ ?_)
      | (with_reducible refine LeO.bind ?_ (fun _ => ?_))
      | exact ih0 _ _
      | exact hopperlaw09_works.mono _
      | exact tid_Pack.mono _ _ _ _ _ _
      | exact LeO.none _
      | refine LeO.ite ?_ ?_
      | refine LeO.bind ?_ (fun _ => ?_)
set_option maxHeartbeats 8000000 in
set_option maxRecDepth 100000 in
theorem hopperlaw09_TidParts.calls (k : Nat) (a0_0 : Int) (a0_1 : Int) (a0_2 : Bool) (a0_3 : Bool) (a0_4 : Bool) (a1 : Int) (r : Bool) (w : World) (h : hopperlaw09_TidParts.f k a0_0 a0_1 a0_2 a0_3 a0_4 a1 = some r) :
    Calls Try.prog 6 #[.agg #[.int .i64 a0_0, .int .i64 a0_1, .bool a0_2, .bool a0_3, .bool a0_4], .int .u64 a1] w fun e w' => e = .returned (.bool r) ∧ Below w.heap.size w w' := by
  have hu42 := Try.underlying42
  have HB := Aside0.mk (Below.refl w.heap.size w)
  have H : ((tid_Pack.f k a0_0 a0_1 a0_2 a0_3 a0_4).bind fun bt136 => ((hopperref09_Pack.f a0_0 a0_1 a0_2 a0_3 a0_4).bind fun bt138 => (if bt136.1 = bt138.1 then (if bt136.2 = bt138.2 then ((tid_Number.f a1).bind fun t140 => ((hopperref09_Number.f a1).bind fun t141 => (hopperlaw09_TidParts.j0 k a1 (t140 != t141)))) else (hopperlaw09_TidParts.j0 k a1 true)) else (hopperlaw09_TidParts.j0 k a1 true)))) = some r := h
  clear h
  replace H := Option.bind_eq_some_iff.mp H
  obtain ⟨⟨t136, t137⟩, A30, H⟩ := H
  replace H : ((hopperref09_Pack.f a0_0 a0_1 a0_2 a0_3 a0_4).bind fun bt138 => (if t136 = bt138.1 then (if t137 = bt138.2 then ((tid_Number.f a1).bind fun t140 => ((hopperref09_Number.f a1).bind fun t141 => (hopperlaw09_TidParts.j0 k a1 (t140 != t141)))) else (hopperlaw09_TidParts.j0 k a1 true)) else (hopperlaw09_TidParts.j0 k a1 true))) = some r := H
  have A3 := Aside0.mk A30
  clear A30
  replace H := Option.bind_eq_some_iff.mp H
  obtain ⟨⟨t138, t139⟩, A40, H⟩ := H
  replace H : (if t136 = t138 then (if t137 = t139 then ((tid_Number.f a1).bind fun t140 => ((hopperref09_Number.f a1).bind fun t141 => (hopperlaw09_TidParts.j0 k a1 (t140 != t141)))) else (hopperlaw09_TidParts.j0 k a1 true)) else (hopperlaw09_TidParts.j0 k a1 true)) = some r := H
  have A4 := Aside0.mk A40
  clear A40
  have HC5 := Aside0.mk H
  clear H
  go_enter Try.func6, Try.ntmps6
  go_upto_region 3 with (first | ((with_reducible refine gate_dst (N := 2) rfl ?_); refine box_event ?hg (N := 2) ?hd (cs := #[.int .i64 a0_0, .int .i64 a0_1, .bool a0_2, .bool a0_3, .bool a0_4]) (t := 42) ?hr ?_; (case hd => rfl); (case hg => rfl); (case hr => first | (go_simp; done) | (go_simp; rfl)); intro gb135 hg w6 hbox hb; have n0_ := Aside0.mk (below_step (by repeat (first | (with_reducible first | exact HB.out | apply below_alloc | apply pw_below_drewN | apply below_drew1) | exact HB.out)) hb); have n1_ := Aside0.mk (hbox); have n2_ := Aside0.mk ((by rw [hg]; exact (below_size (by repeat (first | (with_reducible first | exact HB.out | apply below_alloc | apply pw_below_drewN | apply below_drew1) | exact HB.out))) : w.heap.size ≤ gb135)); have n3_ := Aside0.mk ((by rw [hg]; exact (below_size (by repeat (first | (with_reducible first | exact HB.out | apply below_alloc | apply pw_below_drewN | apply below_drew1) | exact HB.out))) : w.heap.size ≤ gb135)); clear HB; have HB := n0_; have BK135 := n1_; have GW135 := n2_; have GE135 := n3_; clear n0_ n1_ n2_ n3_; clear hb hbox hg; have hcz7_0 : w6.cell? ⟨gb135, 0, none⟩ = some (.int .i64 a0_0) := (blk_cell BK135.out 0).trans rfl; have hcz7_1 : w6.cell? ⟨gb135, 1, none⟩ = some (.int .i64 a0_1) := (blk_cell BK135.out 1).trans rfl; have hcz7_2 : w6.cell? ⟨gb135, 2, none⟩ = some (.bool a0_2) := (blk_cell BK135.out 2).trans rfl; have hcz7_3 : w6.cell? ⟨gb135, 3, none⟩ = some (.bool a0_3) := (blk_cell BK135.out 3).trans rfl; have hcz7_4 : w6.cell? ⟨gb135, 4, none⟩ = some (.bool a0_4) := (blk_cell BK135.out 4).trans rfl; have hfz7_0 := blk_frozen BK135.out 0; have hfz7_1 := blk_frozen BK135.out 1; have hfz7_2 := blk_frozen BK135.out 2; have hfz7_3 := blk_frozen BK135.out 3; have hfz7_4 := blk_frozen BK135.out 4) | ((with_reducible refine gate_callee (f := 26) rfl ?_); refine goesL_ (some 26) rfl rfl Try.func26 (by kernel_rfl) rfl #[.int .i64 a0_0, .int .i64 a0_1, .bool a0_2, .bool a0_3, .bool a0_4] rfl (by (try simp only [List.map_toArray, List.map_cons, List.map_nil]); first | done | rfl | (simp only [List.length_drop, List.length_take]; rfl)) ?_; (with_reducible refine (tid_Pack.calls k a0_0 a0_1 a0_2 a0_3 a0_4 t136 t137 _ A3.out).mono ?_); rintro e w' ⟨rfl, ⟨nd, rfl⟩⟩; refine ⟨_, rfl, ?_⟩) | ((with_reducible refine gate_callee (f := 27) rfl ?_); refine goesL_ (some 40) rfl rfl Try.func27 (by kernel_rfl) rfl #[.int .i64 a0_0, .int .i64 a0_1, .bool a0_2, .bool a0_3, .bool a0_4] rfl (by (try simp only [List.map_toArray, List.map_cons, List.map_nil]); first | done | rfl | (simp only [List.length_drop, List.length_take]; rfl)) ?_; (with_reducible refine (hopperref09_Pack.calls a0_0 a0_1 a0_2 a0_3 a0_4 t138 t139 _ A4.out).mono ?_); rintro e w' ⟨rfl, ⟨nd, rfl⟩⟩; refine ⟨_, rfl, ?_⟩))
  (try simp only [Act.put, List.setIfInBounds_toArray, List.set_cons_zero, List.set_cons_succ])
  go_cut [59] (fun v59 wc => ∃ (kq : Nat) (x59_4 : Bool), v59 = .bool x59_4 ∧ Aside0 (hopperlaw09_TidParts.j0 kq a1 x59_4 = some r) ∧ Aside0 (kq ≤ k) ∧ Aside0 (wc.heap[gb135]? = some (.cells #[.int .i64 a0_0, .int .i64 a0_1, .bool a0_2, .bool a0_3, .bool a0_4] 42 (0, 0))) ∧ Aside0 (Below w.heap.size w wc))
  case first =>
    have H := HC5.out
    clear HC5
    by_cases c8 : t136 = t138
    · rw [if_pos c8] at H
      have c8b0 : (t136 == t138) = true := beq_iff_eq.mpr c8
      have c8b1 : (t136 != t138) = false := bne_eq_false_iff_eq.mpr c8
      clear c8
      (first | rw [c8b0] | (simp only [i64_w, i32_w]; rw [c8b0]) | skip)
      by_cases c9 : t137 = t139
      · rw [if_pos c9] at H
        have c9b0 : (t137 == t139) = true := beq_iff_eq.mpr c9
        have c9b1 : (t137 != t139) = false := bne_eq_false_iff_eq.mpr c9
        clear c9
        replace H := Option.bind_eq_some_iff.mp H
        obtain ⟨t140, A100, H⟩ := H
        replace H : ((hopperref09_Number.f a1).bind fun t141 => (hopperlaw09_TidParts.j0 k a1 (t140 != t141))) = some r := H
        have A10 := Aside0.mk A100
        clear A100
        replace H := Option.bind_eq_some_iff.mp H
        obtain ⟨t141, A110, H⟩ := H
        replace H : (hopperlaw09_TidParts.j0 k a1 (t140 != t141)) = some r := H
        have A11 := Aside0.mk A110
        clear A110
        have H' := Aside0.mk H
        clear H
        go_wp2_with (first | (go_at_call 28; (with_reducible refine (tid_Number.calls a1 t140 _ A10.out).mono ?_); rintro e w' ⟨rfl, ⟨nd, rfl⟩⟩) | (go_at_call 29; (with_reducible refine (hopperref09_Number.calls a1 t141 _ A11.out).mono ?_); rintro e w' ⟨rfl, ⟨nd, rfl⟩⟩))
        go_meet
        case rel => exact ⟨_, ((t140 != t141)), (by first | rfl | (simp; done) | (simp [*]; done)), H', ⟨by first | omega | exact Nat.le_refl _⟩, ⟨by (with_reducible repeat (first | refine blk_drewN ?_ _ | refine blk_drew ?_ | refine blk_alloc ?_ _)); exact BK135.out⟩, ⟨by repeat (first | (with_reducible first | exact HB.out | apply below_alloc | apply pw_below_drewN | apply below_drew1 | refine below_set ?_ GE135.out) | exact HB.out)⟩⟩
      · rw [if_neg c9] at H
        have c9b0 : (t137 == t139) = false := beq_eq_false_iff_ne.mpr c9
        have c9b1 : (t137 != t139) = true := bne_iff_ne.mpr c9
        have H' := Aside0.mk H
        clear H
        go_wp2
        go_meet
        case rel => exact ⟨_, (true), (by first | rfl | (simp; done) | (simp [*]; done)), H', ⟨by first | omega | exact Nat.le_refl _⟩, ⟨by (with_reducible repeat (first | refine blk_drewN ?_ _ | refine blk_drew ?_ | refine blk_alloc ?_ _)); exact BK135.out⟩, ⟨by repeat (first | (with_reducible first | exact HB.out | apply below_alloc | apply pw_below_drewN | apply below_drew1 | refine below_set ?_ GE135.out) | exact HB.out)⟩⟩
    · rw [if_neg c8] at H
      have c8b0 : (t136 == t138) = false := beq_eq_false_iff_ne.mpr c8
      have c8b1 : (t136 != t138) = true := bne_iff_ne.mpr c8
      (first | rw [c8b0] | (simp only [i64_w, i32_w]; rw [c8b0]) | skip)
      have H' := Aside0.mk H
      clear H
      go_wp2
      go_meet
      case rel => exact ⟨_, (true), (by first | rfl | (simp; done) | (simp [*]; done)), H', ⟨by first | omega | exact Nat.le_refl _⟩, ⟨by (with_reducible repeat (first | refine blk_drewN ?_ _ | refine blk_drew ?_ | refine blk_alloc ?_ _)); exact BK135.out⟩, ⟨by repeat (first | (with_reducible first | exact HB.out | apply below_alloc | apply pw_below_drewN | apply below_drew1 | refine below_set ?_ GE135.out) | exact HB.out)⟩⟩
  case rest =>
    clear HC5
    try clear c2
    try clear p2
    try clear c6
    try clear c8
    try clear c8b0
    try clear c8b1
    try clear c9
    try clear c9b0
    try clear c9b1
    try clear hcz7_0
    try clear hcz7_1
    try clear hcz7_2
    try clear hcz7_3
    try clear hcz7_4
    try clear hfz7_0
    try clear hfz7_1
    try clear hfz7_2
    try clear hfz7_3
    try clear hfz7_4
    obtain ⟨kq, x59_4, rfl, HA, HJ4, BK135, HB⟩ := hcut
    cases kq with
    | zero => exact absurd HA.out (by simp [hopperlaw09_TidParts.j0])
    | succ kj4 =>
      have H := HA.out
      clear HA
      simp only [hopperlaw09_TidParts.j0] at H
      by_cases c12 : x59_4 = true
      · subst c12
        have H1 : (some false) = some r := by rw [if_pos rfl] at H; exact H
        clear H
        have H := H1
        clear H1
        obtain rfl := Option.some.inj H
        go_wp2
        go_ret
        exact ⟨by first | rfl | (simp [errW_none, errW_some] <;> rfl) | (simp [*, errW_none, errW_some] <;> rfl), by repeat (first | (with_reducible first | exact HB.out | apply below_alloc | apply pw_below_drewN | apply below_drew1 | refine below_set ?_ GE135.out) | exact HB.out)⟩
      · replace c12 := Bool.eq_false_iff.mpr c12
        subst c12
        have H1 : ((tid_Unpack.f a1).bind fun bt142 => ((hopperref09_May.f a1).bind fun t148 => (if t148 = true then (if bt142.2.2.2.2.2 = 0 then ((hopperref09_Epoch.f a1).bind fun t149 => (if (IntKind.u64.wrap (bt142.1)) = t149 then ((hopperref09_Seq.f a1).bind fun t150 => (if bt142.2.1 = t150 then (if (bt142.2.2.1 == ((Int.tmod a1 2) == 1)) = true then (if (bt142.2.2.2.1 == ((Int.tmod (IntKind.u64.wrap (Int.tdiv a1 2)) 2) == 1)) = true then (if (bt142.2.2.2.2.1 == ((Int.tmod (IntKind.u64.wrap (Int.tdiv a1 4)) 2) == 1)) = true then ((hopperlaw09_works.f kj4).bind fun t151 => (some t151)) else (some false)) else (some false)) else (some false)) else (some false))) else (some false))) else (some false)) else (if bt142.2.2.2.2.2 = 90 then (if bt142.1 = 0 then (if bt142.2.1 = 0 then (if bt142.2.2.1 = true then (some false) else (if bt142.2.2.2.1 = true then (some false) else (if bt142.2.2.2.2.1 = true then (some false) else ((hopperlaw09_works.f kj4).bind fun t152 => (some t152))))) else (some false)) else (some false)) else (some false))))) = some r := by rw [if_neg (show ¬ (false = true) by decide)] at H; exact H
        clear H
        have H := H1
        clear H1
        replace H := Option.bind_eq_some_iff.mp H
        obtain ⟨⟨t142, t143, t144, t145, t146, t147⟩, A130, H⟩ := H
        replace H : ((hopperref09_May.f a1).bind fun t148 => (if t148 = true then (if t147 = 0 then ((hopperref09_Epoch.f a1).bind fun t149 => (if (IntKind.u64.wrap (t142)) = t149 then ((hopperref09_Seq.f a1).bind fun t150 => (if t143 = t150 then (if (t144 == ((Int.tmod a1 2) == 1)) = true then (if (t145 == ((Int.tmod (IntKind.u64.wrap (Int.tdiv a1 2)) 2) == 1)) = true then (if (t146 == ((Int.tmod (IntKind.u64.wrap (Int.tdiv a1 4)) 2) == 1)) = true then ((hopperlaw09_works.f kj4).bind fun t151 => (some t151)) else (some false)) else (some false)) else (some false)) else (some false))) else (some false))) else (some false)) else (if t147 = 90 then (if t142 = 0 then (if t143 = 0 then (if t144 = true then (some false) else (if t145 = true then (some false) else (if t146 = true then (some false) else ((hopperlaw09_works.f kj4).bind fun t152 => (some t152))))) else (some false)) else (some false)) else (some false)))) = some r := H
        have A13 := Aside0.mk A130
        clear A130
        replace H := Option.bind_eq_some_iff.mp H
        obtain ⟨t148, A140, H⟩ := H
        replace H : (if t148 = true then (if t147 = 0 then ((hopperref09_Epoch.f a1).bind fun t149 => (if (IntKind.u64.wrap (t142)) = t149 then ((hopperref09_Seq.f a1).bind fun t150 => (if t143 = t150 then (if (t144 == ((Int.tmod a1 2) == 1)) = true then (if (t145 == ((Int.tmod (IntKind.u64.wrap (Int.tdiv a1 2)) 2) == 1)) = true then (if (t146 == ((Int.tmod (IntKind.u64.wrap (Int.tdiv a1 4)) 2) == 1)) = true then ((hopperlaw09_works.f kj4).bind fun t151 => (some t151)) else (some false)) else (some false)) else (some false)) else (some false))) else (some false))) else (some false)) else (if t147 = 90 then (if t142 = 0 then (if t143 = 0 then (if t144 = true then (some false) else (if t145 = true then (some false) else (if t146 = true then (some false) else ((hopperlaw09_works.f kj4).bind fun t152 => (some t152))))) else (some false)) else (some false)) else (some false))) = some r := H
        have A14 := Aside0.mk A140
        clear A140
        by_cases c15 : t148 = true
        · subst c15
          have H1 : (if t147 = 0 then ((hopperref09_Epoch.f a1).bind fun t149 => (if (IntKind.u64.wrap (t142)) = t149 then ((hopperref09_Seq.f a1).bind fun t150 => (if t143 = t150 then (if (t144 == ((Int.tmod a1 2) == 1)) = true then (if (t145 == ((Int.tmod (IntKind.u64.wrap (Int.tdiv a1 2)) 2) == 1)) = true then (if (t146 == ((Int.tmod (IntKind.u64.wrap (Int.tdiv a1 4)) 2) == 1)) = true then ((hopperlaw09_works.f kj4).bind fun t151 => (some t151)) else (some false)) else (some false)) else (some false)) else (some false))) else (some false))) else (some false)) = some r := by rw [if_pos rfl] at H; exact H
          clear H
          have H := H1
          clear H1
          by_cases c16 : t147 = 0
          · rw [if_pos c16] at H
            have c16b0 : (t147 == 0) = true := beq_iff_eq.mpr c16
            have c16b1 : (t147 != 0) = false := bne_eq_false_iff_eq.mpr c16
            clear c16
            replace H := Option.bind_eq_some_iff.mp H
            obtain ⟨t149, A170, H⟩ := H
            replace H : (if (IntKind.u64.wrap (t142)) = t149 then ((hopperref09_Seq.f a1).bind fun t150 => (if t143 = t150 then (if (t144 == ((Int.tmod a1 2) == 1)) = true then (if (t145 == ((Int.tmod (IntKind.u64.wrap (Int.tdiv a1 2)) 2) == 1)) = true then (if (t146 == ((Int.tmod (IntKind.u64.wrap (Int.tdiv a1 4)) 2) == 1)) = true then ((hopperlaw09_works.f kj4).bind fun t151 => (some t151)) else (some false)) else (some false)) else (some false)) else (some false))) else (some false)) = some r := H
            have A17 := Aside0.mk A170
            clear A170
            by_cases c18 : (IntKind.u64.wrap (t142)) = t149
            · rw [if_pos c18] at H
              have c18b0 : ((IntKind.u64.wrap (t142)) == t149) = true := beq_iff_eq.mpr c18
              have c18b1 : ((IntKind.u64.wrap (t142)) != t149) = false := bne_eq_false_iff_eq.mpr c18
              clear c18
              replace H := Option.bind_eq_some_iff.mp H
              obtain ⟨t150, A190, H⟩ := H
              replace H : (if t143 = t150 then (if (t144 == ((Int.tmod a1 2) == 1)) = true then (if (t145 == ((Int.tmod (IntKind.u64.wrap (Int.tdiv a1 2)) 2) == 1)) = true then (if (t146 == ((Int.tmod (IntKind.u64.wrap (Int.tdiv a1 4)) 2) == 1)) = true then ((hopperlaw09_works.f kj4).bind fun t151 => (some t151)) else (some false)) else (some false)) else (some false)) else (some false)) = some r := H
              have A19 := Aside0.mk A190
              clear A190
              by_cases c20 : t143 = t150
              · rw [if_pos c20] at H
                have c20b0 : (t143 == t150) = true := beq_iff_eq.mpr c20
                have c20b1 : (t143 != t150) = false := bne_eq_false_iff_eq.mpr c20
                clear c20
                by_cases c21 : (t144 == ((Int.tmod a1 2) == 1)) = true
                · rw [if_pos c21] at H
                  have c21b0 : (t144 == ((Int.tmod a1 2) == 1)) = true := c21
                  (try (have c21b1 : decide (t144 = ((Int.tmod a1 2) == 1)) = true := by simpa using c21))
                  (try (have c21b2 : (t144 == ((Int.tmod a1 2) == 1)) = true := by simpa using c21))
                  clear c21
                  by_cases c22 : (t145 == ((Int.tmod (IntKind.u64.wrap (Int.tdiv a1 2)) 2) == 1)) = true
                  · rw [if_pos c22] at H
                    have c22b0 : (t145 == ((Int.tmod (IntKind.u64.wrap (Int.tdiv a1 2)) 2) == 1)) = true := c22
                    (try (have c22b1 : decide (t145 = ((Int.tmod (IntKind.u64.wrap (Int.tdiv a1 2)) 2) == 1)) = true := by simpa using c22))
                    (try (have c22b2 : (t145 == ((Int.tmod (IntKind.u64.wrap (Int.tdiv a1 2)) 2) == 1)) = true := by simpa using c22))
                    clear c22
                    by_cases c23 : (t146 == ((Int.tmod (IntKind.u64.wrap (Int.tdiv a1 4)) 2) == 1)) = true
                    · rw [if_pos c23] at H
                      have c23b0 : (t146 == ((Int.tmod (IntKind.u64.wrap (Int.tdiv a1 4)) 2) == 1)) = true := c23
                      (try (have c23b1 : decide (t146 = ((Int.tmod (IntKind.u64.wrap (Int.tdiv a1 4)) 2) == 1)) = true := by simpa using c23))
                      (try (have c23b2 : (t146 == ((Int.tmod (IntKind.u64.wrap (Int.tdiv a1 4)) 2) == 1)) = true := by simpa using c23))
                      clear c23
                      replace H := Option.bind_eq_some_iff.mp H
                      obtain ⟨t151, A240, H⟩ := H
                      replace H : (some t151) = some r := H
                      have A24 := Aside0.mk A240
                      clear A240
                      obtain rfl := Option.some.inj H
                      go_wp2_with (first | ((with_reducible refine gate_callee (f := 30) rfl ?_); refine goesL_ (some 62) rfl rfl Try.func30 (by kernel_rfl) rfl #[.int .u64 a1] rfl (by (try simp only [List.map_toArray, List.map_cons, List.map_nil]); first | done | rfl | (simp only [List.length_drop, List.length_take]; rfl)) ?_; (with_reducible refine (tid_Unpack.calls a1 t142 t143 t144 t145 t146 t147 _ A13.out).mono ?_); rintro e w' ⟨rfl, ⟨nd, rfl⟩⟩; refine ⟨_, rfl, ?_⟩) | ((with_reducible refine gate_callee (f := 31) rfl ?_); refine goesL_ (some 70) rfl rfl Try.func31 (by kernel_rfl) rfl #[.int .u64 a1] rfl (by (try simp only [List.map_toArray, List.map_cons, List.map_nil]); first | done | rfl | (simp only [List.length_drop, List.length_take]; rfl)) ?_; (with_reducible refine (hopperref09_May.calls a1 true _ A14.out).mono ?_); rintro e w' ⟨rfl, ⟨nd, rfl⟩⟩; refine ⟨_, rfl, ?_⟩) | (go_at_call 32; (with_reducible refine (hopperref09_Epoch.calls a1 t149 _ A17.out).mono ?_); rintro e w' ⟨rfl, ⟨nd, rfl⟩⟩) | (go_at_call 33; (with_reducible refine (hopperref09_Seq.calls a1 t150 _ A19.out).mono ?_); rintro e w' ⟨rfl, ⟨nd, rfl⟩⟩) | (go_at_call 25; (with_reducible refine (hopperlaw09_works.calls kj4  t151 _ A24.out).mono ?_); rintro e w25 ⟨rfl, hb⟩; have n0_ := Aside0.mk (blk_below (g := gb135) (o := .cells #[.int .i64 a0_0, .int .i64 a0_1, .bool a0_2, .bool a0_3, .bool a0_4] 42 (0, 0)) (by (with_reducible repeat (first | refine blk_drewN ?_ _ | refine blk_drew ?_ | refine blk_alloc ?_ _)); exact BK135.out) hb); have n1_ := Aside0.mk (below_step (by repeat (first | (with_reducible first | exact HB.out | apply below_alloc | apply pw_below_drewN | apply below_drew1 | refine below_set ?_ GE135.out) | exact HB.out)) hb); clear BK135; clear HB; have BK135 := n0_; have HB := n1_; clear n0_ n1_; (try clear hb); (try clear hb2); (try clear hk); (try clear hi)))
                      go_ret
                      exact ⟨by first | rfl | (simp [errW_none, errW_some] <;> rfl) | (simp [*, errW_none, errW_some] <;> rfl), by repeat (first | (with_reducible first | exact HB.out | apply below_alloc | apply pw_below_drewN | apply below_drew1 | refine below_set ?_ GE135.out) | exact HB.out)⟩
                    · rw [if_neg c23] at H
                      have c23b0 : (t146 == ((Int.tmod (IntKind.u64.wrap (Int.tdiv a1 4)) 2) == 1)) = false := by simpa using c23
                      (try (have c23b1 : decide (t146 = ((Int.tmod (IntKind.u64.wrap (Int.tdiv a1 4)) 2) == 1)) = false := by simpa using c23))
                      (try (have c23b2 : (t146 == ((Int.tmod (IntKind.u64.wrap (Int.tdiv a1 4)) 2) == 1)) = false := by simpa using c23))
                      (try (have c23b3 : ¬ (t146 = ((Int.tmod (IntKind.u64.wrap (Int.tdiv a1 4)) 2) == 1)) := by simpa using c23))
                      clear c23
                      obtain rfl := Option.some.inj H
                      go_wp2_with (first | ((with_reducible refine gate_callee (f := 30) rfl ?_); refine goesL_ (some 62) rfl rfl Try.func30 (by kernel_rfl) rfl #[.int .u64 a1] rfl (by (try simp only [List.map_toArray, List.map_cons, List.map_nil]); first | done | rfl | (simp only [List.length_drop, List.length_take]; rfl)) ?_; (with_reducible refine (tid_Unpack.calls a1 t142 t143 t144 t145 t146 t147 _ A13.out).mono ?_); rintro e w' ⟨rfl, ⟨nd, rfl⟩⟩; refine ⟨_, rfl, ?_⟩) | ((with_reducible refine gate_callee (f := 31) rfl ?_); refine goesL_ (some 70) rfl rfl Try.func31 (by kernel_rfl) rfl #[.int .u64 a1] rfl (by (try simp only [List.map_toArray, List.map_cons, List.map_nil]); first | done | rfl | (simp only [List.length_drop, List.length_take]; rfl)) ?_; (with_reducible refine (hopperref09_May.calls a1 true _ A14.out).mono ?_); rintro e w' ⟨rfl, ⟨nd, rfl⟩⟩; refine ⟨_, rfl, ?_⟩) | (go_at_call 32; (with_reducible refine (hopperref09_Epoch.calls a1 t149 _ A17.out).mono ?_); rintro e w' ⟨rfl, ⟨nd, rfl⟩⟩) | (go_at_call 33; (with_reducible refine (hopperref09_Seq.calls a1 t150 _ A19.out).mono ?_); rintro e w' ⟨rfl, ⟨nd, rfl⟩⟩))
                      go_ret
                      exact ⟨by first | rfl | (simp [errW_none, errW_some] <;> rfl) | (simp [*, errW_none, errW_some] <;> rfl), by repeat (first | (with_reducible first | exact HB.out | apply below_alloc | apply pw_below_drewN | apply below_drew1 | refine below_set ?_ GE135.out) | exact HB.out)⟩
                  · rw [if_neg c22] at H
                    have c22b0 : (t145 == ((Int.tmod (IntKind.u64.wrap (Int.tdiv a1 2)) 2) == 1)) = false := by simpa using c22
                    (try (have c22b1 : decide (t145 = ((Int.tmod (IntKind.u64.wrap (Int.tdiv a1 2)) 2) == 1)) = false := by simpa using c22))
                    (try (have c22b2 : (t145 == ((Int.tmod (IntKind.u64.wrap (Int.tdiv a1 2)) 2) == 1)) = false := by simpa using c22))
                    (try (have c22b3 : ¬ (t145 = ((Int.tmod (IntKind.u64.wrap (Int.tdiv a1 2)) 2) == 1)) := by simpa using c22))
                    clear c22
                    obtain rfl := Option.some.inj H
                    go_wp2_with (first | ((with_reducible refine gate_callee (f := 30) rfl ?_); refine goesL_ (some 62) rfl rfl Try.func30 (by kernel_rfl) rfl #[.int .u64 a1] rfl (by (try simp only [List.map_toArray, List.map_cons, List.map_nil]); first | done | rfl | (simp only [List.length_drop, List.length_take]; rfl)) ?_; (with_reducible refine (tid_Unpack.calls a1 t142 t143 t144 t145 t146 t147 _ A13.out).mono ?_); rintro e w' ⟨rfl, ⟨nd, rfl⟩⟩; refine ⟨_, rfl, ?_⟩) | ((with_reducible refine gate_callee (f := 31) rfl ?_); refine goesL_ (some 70) rfl rfl Try.func31 (by kernel_rfl) rfl #[.int .u64 a1] rfl (by (try simp only [List.map_toArray, List.map_cons, List.map_nil]); first | done | rfl | (simp only [List.length_drop, List.length_take]; rfl)) ?_; (with_reducible refine (hopperref09_May.calls a1 true _ A14.out).mono ?_); rintro e w' ⟨rfl, ⟨nd, rfl⟩⟩; refine ⟨_, rfl, ?_⟩) | (go_at_call 32; (with_reducible refine (hopperref09_Epoch.calls a1 t149 _ A17.out).mono ?_); rintro e w' ⟨rfl, ⟨nd, rfl⟩⟩) | (go_at_call 33; (with_reducible refine (hopperref09_Seq.calls a1 t150 _ A19.out).mono ?_); rintro e w' ⟨rfl, ⟨nd, rfl⟩⟩))
                    go_ret
                    exact ⟨by first | rfl | (simp [errW_none, errW_some] <;> rfl) | (simp [*, errW_none, errW_some] <;> rfl), by repeat (first | (with_reducible first | exact HB.out | apply below_alloc | apply pw_below_drewN | apply below_drew1 | refine below_set ?_ GE135.out) | exact HB.out)⟩
                · rw [if_neg c21] at H
                  have c21b0 : (t144 == ((Int.tmod a1 2) == 1)) = false := by simpa using c21
                  (try (have c21b1 : decide (t144 = ((Int.tmod a1 2) == 1)) = false := by simpa using c21))
                  (try (have c21b2 : (t144 == ((Int.tmod a1 2) == 1)) = false := by simpa using c21))
                  (try (have c21b3 : ¬ (t144 = ((Int.tmod a1 2) == 1)) := by simpa using c21))
                  clear c21
                  obtain rfl := Option.some.inj H
                  go_wp2_with (first | ((with_reducible refine gate_callee (f := 30) rfl ?_); refine goesL_ (some 62) rfl rfl Try.func30 (by kernel_rfl) rfl #[.int .u64 a1] rfl (by (try simp only [List.map_toArray, List.map_cons, List.map_nil]); first | done | rfl | (simp only [List.length_drop, List.length_take]; rfl)) ?_; (with_reducible refine (tid_Unpack.calls a1 t142 t143 t144 t145 t146 t147 _ A13.out).mono ?_); rintro e w' ⟨rfl, ⟨nd, rfl⟩⟩; refine ⟨_, rfl, ?_⟩) | ((with_reducible refine gate_callee (f := 31) rfl ?_); refine goesL_ (some 70) rfl rfl Try.func31 (by kernel_rfl) rfl #[.int .u64 a1] rfl (by (try simp only [List.map_toArray, List.map_cons, List.map_nil]); first | done | rfl | (simp only [List.length_drop, List.length_take]; rfl)) ?_; (with_reducible refine (hopperref09_May.calls a1 true _ A14.out).mono ?_); rintro e w' ⟨rfl, ⟨nd, rfl⟩⟩; refine ⟨_, rfl, ?_⟩) | (go_at_call 32; (with_reducible refine (hopperref09_Epoch.calls a1 t149 _ A17.out).mono ?_); rintro e w' ⟨rfl, ⟨nd, rfl⟩⟩) | (go_at_call 33; (with_reducible refine (hopperref09_Seq.calls a1 t150 _ A19.out).mono ?_); rintro e w' ⟨rfl, ⟨nd, rfl⟩⟩))
                  go_ret
                  exact ⟨by first | rfl | (simp [errW_none, errW_some] <;> rfl) | (simp [*, errW_none, errW_some] <;> rfl), by repeat (first | (with_reducible first | exact HB.out | apply below_alloc | apply pw_below_drewN | apply below_drew1 | refine below_set ?_ GE135.out) | exact HB.out)⟩
              · rw [if_neg c20] at H
                have c20b0 : (t143 == t150) = false := beq_eq_false_iff_ne.mpr c20
                have c20b1 : (t143 != t150) = true := bne_iff_ne.mpr c20
                obtain rfl := Option.some.inj H
                go_wp2_with (first | ((with_reducible refine gate_callee (f := 30) rfl ?_); refine goesL_ (some 62) rfl rfl Try.func30 (by kernel_rfl) rfl #[.int .u64 a1] rfl (by (try simp only [List.map_toArray, List.map_cons, List.map_nil]); first | done | rfl | (simp only [List.length_drop, List.length_take]; rfl)) ?_; (with_reducible refine (tid_Unpack.calls a1 t142 t143 t144 t145 t146 t147 _ A13.out).mono ?_); rintro e w' ⟨rfl, ⟨nd, rfl⟩⟩; refine ⟨_, rfl, ?_⟩) | ((with_reducible refine gate_callee (f := 31) rfl ?_); refine goesL_ (some 70) rfl rfl Try.func31 (by kernel_rfl) rfl #[.int .u64 a1] rfl (by (try simp only [List.map_toArray, List.map_cons, List.map_nil]); first | done | rfl | (simp only [List.length_drop, List.length_take]; rfl)) ?_; (with_reducible refine (hopperref09_May.calls a1 true _ A14.out).mono ?_); rintro e w' ⟨rfl, ⟨nd, rfl⟩⟩; refine ⟨_, rfl, ?_⟩) | (go_at_call 32; (with_reducible refine (hopperref09_Epoch.calls a1 t149 _ A17.out).mono ?_); rintro e w' ⟨rfl, ⟨nd, rfl⟩⟩) | (go_at_call 33; (with_reducible refine (hopperref09_Seq.calls a1 t150 _ A19.out).mono ?_); rintro e w' ⟨rfl, ⟨nd, rfl⟩⟩))
                go_ret
                exact ⟨by first | rfl | (simp [errW_none, errW_some] <;> rfl) | (simp [*, errW_none, errW_some] <;> rfl), by repeat (first | (with_reducible first | exact HB.out | apply below_alloc | apply pw_below_drewN | apply below_drew1 | refine below_set ?_ GE135.out) | exact HB.out)⟩
            · rw [if_neg c18] at H
              have c18b0 : ((IntKind.u64.wrap (t142)) == t149) = false := beq_eq_false_iff_ne.mpr c18
              have c18b1 : ((IntKind.u64.wrap (t142)) != t149) = true := bne_iff_ne.mpr c18
              obtain rfl := Option.some.inj H
              go_wp2_with (first | ((with_reducible refine gate_callee (f := 30) rfl ?_); refine goesL_ (some 62) rfl rfl Try.func30 (by kernel_rfl) rfl #[.int .u64 a1] rfl (by (try simp only [List.map_toArray, List.map_cons, List.map_nil]); first | done | rfl | (simp only [List.length_drop, List.length_take]; rfl)) ?_; (with_reducible refine (tid_Unpack.calls a1 t142 t143 t144 t145 t146 t147 _ A13.out).mono ?_); rintro e w' ⟨rfl, ⟨nd, rfl⟩⟩; refine ⟨_, rfl, ?_⟩) | ((with_reducible refine gate_callee (f := 31) rfl ?_); refine goesL_ (some 70) rfl rfl Try.func31 (by kernel_rfl) rfl #[.int .u64 a1] rfl (by (try simp only [List.map_toArray, List.map_cons, List.map_nil]); first | done | rfl | (simp only [List.length_drop, List.length_take]; rfl)) ?_; (with_reducible refine (hopperref09_May.calls a1 true _ A14.out).mono ?_); rintro e w' ⟨rfl, ⟨nd, rfl⟩⟩; refine ⟨_, rfl, ?_⟩) | (go_at_call 32; (with_reducible refine (hopperref09_Epoch.calls a1 t149 _ A17.out).mono ?_); rintro e w' ⟨rfl, ⟨nd, rfl⟩⟩))
              go_ret
              exact ⟨by first | rfl | (simp [errW_none, errW_some] <;> rfl) | (simp [*, errW_none, errW_some] <;> rfl), by repeat (first | (with_reducible first | exact HB.out | apply below_alloc | apply pw_below_drewN | apply below_drew1 | refine below_set ?_ GE135.out) | exact HB.out)⟩
          · rw [if_neg c16] at H
            have c16b0 : (t147 == 0) = false := beq_eq_false_iff_ne.mpr c16
            have c16b1 : (t147 != 0) = true := bne_iff_ne.mpr c16
            obtain rfl := Option.some.inj H
            go_wp2_with (first | ((with_reducible refine gate_callee (f := 30) rfl ?_); refine goesL_ (some 62) rfl rfl Try.func30 (by kernel_rfl) rfl #[.int .u64 a1] rfl (by (try simp only [List.map_toArray, List.map_cons, List.map_nil]); first | done | rfl | (simp only [List.length_drop, List.length_take]; rfl)) ?_; (with_reducible refine (tid_Unpack.calls a1 t142 t143 t144 t145 t146 t147 _ A13.out).mono ?_); rintro e w' ⟨rfl, ⟨nd, rfl⟩⟩; refine ⟨_, rfl, ?_⟩) | ((with_reducible refine gate_callee (f := 31) rfl ?_); refine goesL_ (some 70) rfl rfl Try.func31 (by kernel_rfl) rfl #[.int .u64 a1] rfl (by (try simp only [List.map_toArray, List.map_cons, List.map_nil]); first | done | rfl | (simp only [List.length_drop, List.length_take]; rfl)) ?_; (with_reducible refine (hopperref09_May.calls a1 true _ A14.out).mono ?_); rintro e w' ⟨rfl, ⟨nd, rfl⟩⟩; refine ⟨_, rfl, ?_⟩))
            go_ret
            exact ⟨by first | rfl | (simp [errW_none, errW_some] <;> rfl) | (simp [*, errW_none, errW_some] <;> rfl), by repeat (first | (with_reducible first | exact HB.out | apply below_alloc | apply pw_below_drewN | apply below_drew1 | refine below_set ?_ GE135.out) | exact HB.out)⟩
        · replace c15 := Bool.eq_false_iff.mpr c15
          subst c15
          have H1 : (if t147 = 90 then (if t142 = 0 then (if t143 = 0 then (if t144 = true then (some false) else (if t145 = true then (some false) else (if t146 = true then (some false) else ((hopperlaw09_works.f kj4).bind fun t152 => (some t152))))) else (some false)) else (some false)) else (some false)) = some r := by rw [if_neg (show ¬ (false = true) by decide)] at H; exact H
          clear H
          have H := H1
          clear H1
          by_cases c26 : t147 = 90
          · rw [if_pos c26] at H
            have c26b0 : (t147 == 90) = true := beq_iff_eq.mpr c26
            have c26b1 : (t147 != 90) = false := bne_eq_false_iff_eq.mpr c26
            clear c26
            by_cases c27 : t142 = 0
            · rw [if_pos c27] at H
              have c27b0 : (t142 == 0) = true := beq_iff_eq.mpr c27
              have c27b1 : (t142 != 0) = false := bne_eq_false_iff_eq.mpr c27
              clear c27
              by_cases c28 : t143 = 0
              · rw [if_pos c28] at H
                have c28b0 : (t143 == 0) = true := beq_iff_eq.mpr c28
                have c28b1 : (t143 != 0) = false := bne_eq_false_iff_eq.mpr c28
                clear c28
                by_cases c29 : t144 = true
                · subst c29
                  have H1 : (some false) = some r := by rw [if_pos rfl] at H; exact H
                  clear H
                  have H := H1
                  clear H1
                  obtain rfl := Option.some.inj H
                  go_wp2_with (first | ((with_reducible refine gate_callee (f := 30) rfl ?_); refine goesL_ (some 62) rfl rfl Try.func30 (by kernel_rfl) rfl #[.int .u64 a1] rfl (by (try simp only [List.map_toArray, List.map_cons, List.map_nil]); first | done | rfl | (simp only [List.length_drop, List.length_take]; rfl)) ?_; (with_reducible refine (tid_Unpack.calls a1 t142 t143 true t145 t146 t147 _ A13.out).mono ?_); rintro e w' ⟨rfl, ⟨nd, rfl⟩⟩; refine ⟨_, rfl, ?_⟩) | ((with_reducible refine gate_callee (f := 31) rfl ?_); refine goesL_ (some 70) rfl rfl Try.func31 (by kernel_rfl) rfl #[.int .u64 a1] rfl (by (try simp only [List.map_toArray, List.map_cons, List.map_nil]); first | done | rfl | (simp only [List.length_drop, List.length_take]; rfl)) ?_; (with_reducible refine (hopperref09_May.calls a1 false _ A14.out).mono ?_); rintro e w' ⟨rfl, ⟨nd, rfl⟩⟩; refine ⟨_, rfl, ?_⟩))
                  go_ret
                  exact ⟨by first | rfl | (simp [errW_none, errW_some] <;> rfl) | (simp [*, errW_none, errW_some] <;> rfl), by repeat (first | (with_reducible first | exact HB.out | apply below_alloc | apply pw_below_drewN | apply below_drew1 | refine below_set ?_ GE135.out) | exact HB.out)⟩
                · replace c29 := Bool.eq_false_iff.mpr c29
                  subst c29
                  have H1 : (if t145 = true then (some false) else (if t146 = true then (some false) else ((hopperlaw09_works.f kj4).bind fun t152 => (some t152)))) = some r := by rw [if_neg (show ¬ (false = true) by decide)] at H; exact H
                  clear H
                  have H := H1
                  clear H1
                  by_cases c30 : t145 = true
                  · subst c30
                    have H1 : (some false) = some r := by rw [if_pos rfl] at H; exact H
                    clear H
                    have H := H1
                    clear H1
                    obtain rfl := Option.some.inj H
                    go_wp2_with (first | ((with_reducible refine gate_callee (f := 30) rfl ?_); refine goesL_ (some 62) rfl rfl Try.func30 (by kernel_rfl) rfl #[.int .u64 a1] rfl (by (try simp only [List.map_toArray, List.map_cons, List.map_nil]); first | done | rfl | (simp only [List.length_drop, List.length_take]; rfl)) ?_; (with_reducible refine (tid_Unpack.calls a1 t142 t143 false true t146 t147 _ A13.out).mono ?_); rintro e w' ⟨rfl, ⟨nd, rfl⟩⟩; refine ⟨_, rfl, ?_⟩) | ((with_reducible refine gate_callee (f := 31) rfl ?_); refine goesL_ (some 70) rfl rfl Try.func31 (by kernel_rfl) rfl #[.int .u64 a1] rfl (by (try simp only [List.map_toArray, List.map_cons, List.map_nil]); first | done | rfl | (simp only [List.length_drop, List.length_take]; rfl)) ?_; (with_reducible refine (hopperref09_May.calls a1 false _ A14.out).mono ?_); rintro e w' ⟨rfl, ⟨nd, rfl⟩⟩; refine ⟨_, rfl, ?_⟩))
                    go_ret
                    exact ⟨by first | rfl | (simp [errW_none, errW_some] <;> rfl) | (simp [*, errW_none, errW_some] <;> rfl), by repeat (first | (with_reducible first | exact HB.out | apply below_alloc | apply pw_below_drewN | apply below_drew1 | refine below_set ?_ GE135.out) | exact HB.out)⟩
                  · replace c30 := Bool.eq_false_iff.mpr c30
                    subst c30
                    have H1 : (if t146 = true then (some false) else ((hopperlaw09_works.f kj4).bind fun t152 => (some t152))) = some r := by rw [if_neg (show ¬ (false = true) by decide)] at H; exact H
                    clear H
                    have H := H1
                    clear H1
                    by_cases c31 : t146 = true
                    · subst c31
                      have H1 : (some false) = some r := by rw [if_pos rfl] at H; exact H
                      clear H
                      have H := H1
                      clear H1
                      obtain rfl := Option.some.inj H
                      go_wp2_with (first | ((with_reducible refine gate_callee (f := 30) rfl ?_); refine goesL_ (some 62) rfl rfl Try.func30 (by kernel_rfl) rfl #[.int .u64 a1] rfl (by (try simp only [List.map_toArray, List.map_cons, List.map_nil]); first | done | rfl | (simp only [List.length_drop, List.length_take]; rfl)) ?_; (with_reducible refine (tid_Unpack.calls a1 t142 t143 false false true t147 _ A13.out).mono ?_); rintro e w' ⟨rfl, ⟨nd, rfl⟩⟩; refine ⟨_, rfl, ?_⟩) | ((with_reducible refine gate_callee (f := 31) rfl ?_); refine goesL_ (some 70) rfl rfl Try.func31 (by kernel_rfl) rfl #[.int .u64 a1] rfl (by (try simp only [List.map_toArray, List.map_cons, List.map_nil]); first | done | rfl | (simp only [List.length_drop, List.length_take]; rfl)) ?_; (with_reducible refine (hopperref09_May.calls a1 false _ A14.out).mono ?_); rintro e w' ⟨rfl, ⟨nd, rfl⟩⟩; refine ⟨_, rfl, ?_⟩))
                      go_ret
                      exact ⟨by first | rfl | (simp [errW_none, errW_some] <;> rfl) | (simp [*, errW_none, errW_some] <;> rfl), by repeat (first | (with_reducible first | exact HB.out | apply below_alloc | apply pw_below_drewN | apply below_drew1 | refine below_set ?_ GE135.out) | exact HB.out)⟩
                    · replace c31 := Bool.eq_false_iff.mpr c31
                      subst c31
                      have H1 : ((hopperlaw09_works.f kj4).bind fun t152 => (some t152)) = some r := by rw [if_neg (show ¬ (false = true) by decide)] at H; exact H
                      clear H
                      have H := H1
                      clear H1
                      replace H := Option.bind_eq_some_iff.mp H
                      obtain ⟨t152, A320, H⟩ := H
                      replace H : (some t152) = some r := H
                      have A32 := Aside0.mk A320
                      clear A320
                      obtain rfl := Option.some.inj H
                      go_wp2_with (first | ((with_reducible refine gate_callee (f := 30) rfl ?_); refine goesL_ (some 62) rfl rfl Try.func30 (by kernel_rfl) rfl #[.int .u64 a1] rfl (by (try simp only [List.map_toArray, List.map_cons, List.map_nil]); first | done | rfl | (simp only [List.length_drop, List.length_take]; rfl)) ?_; (with_reducible refine (tid_Unpack.calls a1 t142 t143 false false false t147 _ A13.out).mono ?_); rintro e w' ⟨rfl, ⟨nd, rfl⟩⟩; refine ⟨_, rfl, ?_⟩) | ((with_reducible refine gate_callee (f := 31) rfl ?_); refine goesL_ (some 70) rfl rfl Try.func31 (by kernel_rfl) rfl #[.int .u64 a1] rfl (by (try simp only [List.map_toArray, List.map_cons, List.map_nil]); first | done | rfl | (simp only [List.length_drop, List.length_take]; rfl)) ?_; (with_reducible refine (hopperref09_May.calls a1 false _ A14.out).mono ?_); rintro e w' ⟨rfl, ⟨nd, rfl⟩⟩; refine ⟨_, rfl, ?_⟩) | (go_at_call 25; (with_reducible refine (hopperlaw09_works.calls kj4  t152 _ A32.out).mono ?_); rintro e w33 ⟨rfl, hb⟩; have n0_ := Aside0.mk (blk_below (g := gb135) (o := .cells #[.int .i64 a0_0, .int .i64 a0_1, .bool a0_2, .bool a0_3, .bool a0_4] 42 (0, 0)) (by (with_reducible repeat (first | refine blk_drewN ?_ _ | refine blk_drew ?_ | refine blk_alloc ?_ _)); exact BK135.out) hb); have n1_ := Aside0.mk (below_step (by repeat (first | (with_reducible first | exact HB.out | apply below_alloc | apply pw_below_drewN | apply below_drew1 | refine below_set ?_ GE135.out) | exact HB.out)) hb); clear BK135; clear HB; have BK135 := n0_; have HB := n1_; clear n0_ n1_; (try clear hb); (try clear hb2); (try clear hk); (try clear hi)))
                      go_ret
                      exact ⟨by first | rfl | (simp [errW_none, errW_some] <;> rfl) | (simp [*, errW_none, errW_some] <;> rfl), by repeat (first | (with_reducible first | exact HB.out | apply below_alloc | apply pw_below_drewN | apply below_drew1 | refine below_set ?_ GE135.out) | exact HB.out)⟩
              · rw [if_neg c28] at H
                have c28b0 : (t143 == 0) = false := beq_eq_false_iff_ne.mpr c28
                have c28b1 : (t143 != 0) = true := bne_iff_ne.mpr c28
                obtain rfl := Option.some.inj H
                go_wp2_with (first | ((with_reducible refine gate_callee (f := 30) rfl ?_); refine goesL_ (some 62) rfl rfl Try.func30 (by kernel_rfl) rfl #[.int .u64 a1] rfl (by (try simp only [List.map_toArray, List.map_cons, List.map_nil]); first | done | rfl | (simp only [List.length_drop, List.length_take]; rfl)) ?_; (with_reducible refine (tid_Unpack.calls a1 t142 t143 t144 t145 t146 t147 _ A13.out).mono ?_); rintro e w' ⟨rfl, ⟨nd, rfl⟩⟩; refine ⟨_, rfl, ?_⟩) | ((with_reducible refine gate_callee (f := 31) rfl ?_); refine goesL_ (some 70) rfl rfl Try.func31 (by kernel_rfl) rfl #[.int .u64 a1] rfl (by (try simp only [List.map_toArray, List.map_cons, List.map_nil]); first | done | rfl | (simp only [List.length_drop, List.length_take]; rfl)) ?_; (with_reducible refine (hopperref09_May.calls a1 false _ A14.out).mono ?_); rintro e w' ⟨rfl, ⟨nd, rfl⟩⟩; refine ⟨_, rfl, ?_⟩))
                go_ret
                exact ⟨by first | rfl | (simp [errW_none, errW_some] <;> rfl) | (simp [*, errW_none, errW_some] <;> rfl), by repeat (first | (with_reducible first | exact HB.out | apply below_alloc | apply pw_below_drewN | apply below_drew1 | refine below_set ?_ GE135.out) | exact HB.out)⟩
            · rw [if_neg c27] at H
              have c27b0 : (t142 == 0) = false := beq_eq_false_iff_ne.mpr c27
              have c27b1 : (t142 != 0) = true := bne_iff_ne.mpr c27
              obtain rfl := Option.some.inj H
              go_wp2_with (first | ((with_reducible refine gate_callee (f := 30) rfl ?_); refine goesL_ (some 62) rfl rfl Try.func30 (by kernel_rfl) rfl #[.int .u64 a1] rfl (by (try simp only [List.map_toArray, List.map_cons, List.map_nil]); first | done | rfl | (simp only [List.length_drop, List.length_take]; rfl)) ?_; (with_reducible refine (tid_Unpack.calls a1 t142 t143 t144 t145 t146 t147 _ A13.out).mono ?_); rintro e w' ⟨rfl, ⟨nd, rfl⟩⟩; refine ⟨_, rfl, ?_⟩) | ((with_reducible refine gate_callee (f := 31) rfl ?_); refine goesL_ (some 70) rfl rfl Try.func31 (by kernel_rfl) rfl #[.int .u64 a1] rfl (by (try simp only [List.map_toArray, List.map_cons, List.map_nil]); first | done | rfl | (simp only [List.length_drop, List.length_take]; rfl)) ?_; (with_reducible refine (hopperref09_May.calls a1 false _ A14.out).mono ?_); rintro e w' ⟨rfl, ⟨nd, rfl⟩⟩; refine ⟨_, rfl, ?_⟩))
              go_ret
              exact ⟨by first | rfl | (simp [errW_none, errW_some] <;> rfl) | (simp [*, errW_none, errW_some] <;> rfl), by repeat (first | (with_reducible first | exact HB.out | apply below_alloc | apply pw_below_drewN | apply below_drew1 | refine below_set ?_ GE135.out) | exact HB.out)⟩
          · rw [if_neg c26] at H
            have c26b0 : (t147 == 90) = false := beq_eq_false_iff_ne.mpr c26
            have c26b1 : (t147 != 90) = true := bne_iff_ne.mpr c26
            obtain rfl := Option.some.inj H
            go_wp2_with (first | ((with_reducible refine gate_callee (f := 30) rfl ?_); refine goesL_ (some 62) rfl rfl Try.func30 (by kernel_rfl) rfl #[.int .u64 a1] rfl (by (try simp only [List.map_toArray, List.map_cons, List.map_nil]); first | done | rfl | (simp only [List.length_drop, List.length_take]; rfl)) ?_; (with_reducible refine (tid_Unpack.calls a1 t142 t143 t144 t145 t146 t147 _ A13.out).mono ?_); rintro e w' ⟨rfl, ⟨nd, rfl⟩⟩; refine ⟨_, rfl, ?_⟩) | ((with_reducible refine gate_callee (f := 31) rfl ?_); refine goesL_ (some 70) rfl rfl Try.func31 (by kernel_rfl) rfl #[.int .u64 a1] rfl (by (try simp only [List.map_toArray, List.map_cons, List.map_nil]); first | done | rfl | (simp only [List.length_drop, List.length_take]; rfl)) ?_; (with_reducible refine (hopperref09_May.calls a1 false _ A14.out).mono ?_); rintro e w' ⟨rfl, ⟨nd, rfl⟩⟩; refine ⟨_, rfl, ?_⟩))
            go_ret
            exact ⟨by first | rfl | (simp [errW_none, errW_some] <;> rfl) | (simp [*, errW_none, errW_some] <;> rfl), by repeat (first | (with_reducible first | exact HB.out | apply below_alloc | apply pw_below_drewN | apply below_drew1 | refine below_set ?_ GE135.out) | exact HB.out)⟩

end Go.Proofs.Ytmfbmagbpceomaa.PTidParts
