import Derived.Test.YtdnmllodefbekaaDoorSha1
import Derived.Deep.RegionHeld3
import Derived.IntWalk
namespace Go.Proofs.YtdnmllodefbekaaDoor.Sha
open Go.RowKit Go.Proofs.YtdnmllodefbekaaDoorW.PrintWords Go.Proofs.YtdnmllodefbekaaDoorW.PrintLast Go.Proofs.YtdnmllodefbekaaDoorW.PrintMore
set_option linter.unusedVariables false
set_option linter.unusedSimpArgs false
theorem zc_cell (n : Nat) (xs : List Int) (h : xs.length ≤ n) (i : Nat) (hi : i < n) : (ZC n xs)[i]? = some (.int .u32 (rd (xs ++ List.replicate (n - xs.length) 0) i)) :=
  nums_cell .u32 _ i (by rw [List.length_append, List.length_replicate]; omega)
theorem zc_set (n t : Nat) (xs : List Int) (x : Int) (h : xs.length = t) (ht : t < n) : (ZC n xs).setIfInBounds t (.int .u32 x) = ZC n (xs ++ [x]) := by
  unfold ZC
  apply Array.ext'
  simp only [List.setIfInBounds_toArray, nums]
  rw [show Value.int IntKind.u32 x = Value.int .u32 x from rfl, ← List.map_set]
  congr 1
  rw [List.set_append_right _ _ (by omega), h, Nat.sub_self, List.append_assoc]
  congr 1
  obtain ⟨m, rfl⟩ : ∃ m, n = t + 1 + m := ⟨n - t - 1, by omega⟩
  rw [show t + 1 + m - t = m + 1 by omega, show t + 1 + m - (xs ++ [x]).length = m by rw [List.length_append, h, List.length_singleton]; omega]
  simp [List.replicate_succ]
theorem rd_left (xs ys : List Int) (i : Nat) (h : i < xs.length) : rd (xs ++ ys) i = rd xs i := by
  unfold rd
  simp [List.getD_eq_getElem?_getD, List.getElem?_append_left h]
def cellAt (w : World) (p : Addr) : Value := (w.cell? p).getD undef
theorem cellAt_of {w : World} {p : Addr} {x : Value} (h : w.cell? p = some x) : w.cell? p = some (cellAt w p) := by unfold cellAt; rw [h]; rfl
theorem cellAt_set {w : World} {p : Addr} {x : Value} (h : w.cell? p = some x) (v : Value) : (w.setCell p v).cell? p = some (cellAt (w.setCell p v) p) := by
  obtain ⟨y, hy⟩ := RowKit.cell?_setCell_some (p := p) (x := v) (q := p) h
  exact cellAt_of hy
theorem far_off {w : World} {b m t : Nat} {v u : Value} (h : w.cell? ⟨b, m, none⟩ = some v) (hm : m ≠ t) : (w.setCell ⟨b, t, none⟩ u).cell? ⟨b, m, none⟩ = some v :=
  (World.cell?_setCell_other w ⟨b, t, none⟩ ⟨b, m, none⟩ u (fun e => hm (by injection e with _ e; exact e.symm))).trans h
def shI (a x : Int) : Int := if a = 17 then smaW x else smaV x
theorem sh_calls (x a b c : Int) (w : World) (h : (a = 17 ∧ b = 19 ∧ c = 10) ∨ (a = 7 ∧ b = 18 ∧ c = 3)) : Calls Tryd.prog 58 #[.int .u32 x, .int .i64 a, .int .i64 b, .int .i64 c] w fun e w' => e = .returned (.int .u32 (shI a x)) ∧ Drawn0 w w' := by
  rcases h with ⟨rfl, rfl, rfl⟩ | ⟨rfl, rfl, rfl⟩
  · rw [show shI 17 x = smaW x from if_pos rfl]; exact smaW_calls x w
  · rw [show shI 7 x = smaV x from if_neg (by decide)]; exact smaV_calls x w
def rtI (a x : Int) : Int := if a = 6 then bigE x else bigA x
theorem rt_calls (x a b c : Int) (w : World) (h : (a = 6 ∧ b = 11 ∧ c = 25) ∨ (a = 2 ∧ b = 13 ∧ c = 22)) : Calls Tryd.prog 59 #[.int .u32 x, .int .i64 a, .int .i64 b, .int .i64 c] w fun e w' => e = .returned (.int .u32 (rtI a x)) ∧ w = w' := by
  rcases h with ⟨rfl, rfl, rfl⟩ | ⟨rfl, rfl, rfl⟩
  · rw [show rtI 6 x = bigE x from if_pos rfl]; exact bigE_calls x w
  · rw [show rtI 2 x = bigA x from if_neg (by decide)]; exact bigA_calls x w
theorem size66 : (Tryd.prog.info? 66).map (·.size) = some 1 := by kernel_rfl
theorem seven_cells {w : World} {g : Nat} {a b c d e f h : Int} (v0 : w.cell? ⟨g, 0, none⟩ = some (.int .u32 a)) (v1 : w.cell? ⟨g, 1, none⟩ = some (.int .u32 b)) (v2 : w.cell? ⟨g, 2, none⟩ = some (.int .u32 c)) (v3 : w.cell? ⟨g, 3, none⟩ = some (.int .u32 d)) (v4 : w.cell? ⟨g, 4, none⟩ = some (.int .u32 e)) (v5 : w.cell? ⟨g, 5, none⟩ = some (.int .u32 f)) (v6 : w.cell? ⟨g, 6, none⟩ = some (.int .u32 h)) :
    ∀ j v, (nums .u32 [a, b, c, d, e, f, h])[j]? = some v → w.cell? ((⟨g, 0, none⟩ : Addr).add j) = some v := by
  intro j v hj
  have e : (⟨g, 0, none⟩ : Addr).add j = ⟨g, j, none⟩ := add_plain g j
  rw [e]
  simp only [nums, List.map_cons, List.map_nil] at hj
  rcases j with _ | _ | _ | _ | _ | _ | _ | j
  all_goals
    simp only [List.getElem?_cons_zero, List.getElem?_cons_succ, List.getElem?_nil, Option.some.injEq, reduceCtorEq] at hj
  all_goals subst hj
  · exact v0
  · exact v1
  · exact v2
  · exact v3
  · exact v4
  · exact v5
  · exact v6
/-- The state while the round's words are put to it. -/
def mixL (st R : List Int) (t : Nat) : List Int := (List.zipWith (fun s v => (s + v) % 4294967296) st R).take t ++ st.drop t
theorem mix_end (st bs : List Int) (h : st.length = 8) (hR : (rounds (sched bs 64) st 64).length = 8) : blk st bs = mixL st (rounds (sched bs 64) st 64) 8 := by
  unfold blk mixL
  rw [List.take_of_length_le (by simp [h, hR]), List.drop_of_length_le (by omega), List.append_nil]
theorem mix_len (st R : List Int) (t : Nat) (h : st.length = 8) (hR : R.length = 8) : (mixL st R t).length = 8 := by
  unfold mixL
  simp [h, hR]; omega
theorem rd_mix (st R : List Int) (t : Nat) (h : st.length = 8) (hR : R.length = 8) (ht : t < 8) : rd (mixL st R t) t = rd st t := by
  unfold mixL rd
  simp [List.getD_eq_getElem?_getD, List.getElem?_append, h, hR, Nat.min_eq_left (Nat.le_of_lt ht)]
theorem mix_set (st R : List Int) (t : Nat) (h : st.length = 8) (hR : R.length = 8) (ht : t < 8) : (mixL st R t).set t ((rd st t + rd R t) % 4294967296) = mixL st R (t + 1) := by
  unfold mixL
  have hz : (List.zipWith (fun s v => (s + v) % 4294967296) st R).length = 8 := by simp [h, hR]
  rw [List.set_append_right _ _ (by simp [hz]; omega)]
  have e1 : ((List.zipWith (fun s v => (s + v) % 4294967296) st R).take t).length = t := by rw [List.length_take, hz]; omega
  rw [e1, Nat.sub_self, List.drop_eq_getElem_cons (by omega), List.set_cons_zero, List.take_succ_eq_append_getElem (by omega), List.append_assoc]
  congr 1
  simp only [List.cons_append, List.nil_append, List.cons.injEq, and_true]
  unfold rd
  simp [List.getElem_zipWith, List.getD_eq_getElem?_getD, h, hR, ht]
theorem hc_cell (l : List Int) (rv : Value) (lg : Int) (h : l.length = 8) (i : Nat) (hi : i < 8) : (HCells l rv lg)[i]? = some (.int .u32 (rd l i)) := by
  unfold HCells rd nums
  simp [List.getElem?_append, List.getD_eq_getElem?_getD, h, hi]
theorem hc_set (l : List Int) (rv : Value) (lg : Int) (h : l.length = 8) (i : Nat) (hi : i < 8) (x : Int) : (HCells l rv lg).setIfInBounds i (.int .u32 x) = HCells (l.set i x) rv lg := by
  unfold HCells nums
  apply Array.ext'
  simp only [List.setIfInBounds_toArray]
  rw [List.set_append_left _ _ (by simp [h]; omega), List.map_set]
theorem below_drewB {B : Nat} {w W : World} (h : Below B w W) (n : Nat) : Below B w (W.drewN n) := ⟨h.os, h.tape, h.output, h.size, h.block⟩
theorem nxt_wraps (a b c d : Int) : IntKind.u32.wrap (IntKind.u32.wrap (IntKind.u32.wrap (shI 17 a + b) + shI 7 c) + d) = (((smaW a + b) % 4294967296 + smaV c) % 4294967296 + d) % 4294967296 := by
  rw [show shI 17 a = smaW a from if_pos rfl, show shI 7 c = smaV c from if_neg (by decide)]
  simp only [IntKind.wrap_u32]
set_option maxRecDepth 100000 in
set_option maxHeartbeats 8000000 in
theorem block_walk (g : Nat) (st : List Int) (rv : Value) (lg : Int) (A : Option Addr) (c : Nat) (bs : List Int) (w : World) (hL : Laid w) (hg2 : 2 ≤ g) (hg : w.heap[g]? = some (.cells (HCells st rv lg) 73 (0, 0))) (hst : st.length = 8)
    (hb : ReadsInt w .u8 A 64 bs) (hc : 64 ≤ c) (hbg : ∀ ad, A = some ad → ad.block ≠ g) :
    Calls Tryd.prog 46 #[.pointer (some ⟨g, 0, none⟩), .slice A 64 c] w fun e w' => e = .returned (.tuple #[]) ∧ w'.heap[g]? = some (.cells (HCells (blk st bs) rv lg) 73 (0, 0)) ∧ Kept w w' (· = g) ∧ Below g w w' := by
  obtain ⟨ad, rfl, hbc⟩ := hb.2.2 (by decide)
  have HLd := Aside0.mk hL
  have HG := Aside0.mk hg
  have HB := Aside0.mk hbc
  have hlt := blk_lt hg
  clear hL hg hbc hb
  go_enter Tryd.func46, Tryd.ntmps46
  go_wp2_with fail
  go_loopg [13] 65 (fun kq v13 w' => ∃ t : Nat, v13 = .int .i64 (t : Int) ∧ Aside0 (t + kq = 65 ∧ t ≤ 64) ∧ Aside0 (w'.heap[w.heap.size]? = some (.cells (ZC 64 (sched bs t)) 92 (0, 0)) ∧ Below w.heap.size w w'))
  case atStart => exact ⟨0, rfl, ⟨rfl, Nat.zero_le _⟩, ⟨heap_alloc_new w _, below_alloc (Below.refl _ _) _⟩⟩
  case round =>
    obtain ⟨t, rfl, HT, HW⟩ := hrel
    by_cases q1 : t < 64
    · obtain ⟨kq1, rfl⟩ : ∃ kq1, gk = kq1 + 1 := ⟨gk - 1, by have := HT.out; omega⟩
      have q1' : (t : Int) < 64 := by omega
      have fz := blk_frozen HW.out.1 t
      have cz := blk_cell HW.out.1 t
      rw [zc_cell _ _ (by rw [sched_len]; omega) t q1] at cz
      by_cases q2 : t < 16
      · have q2' : (t : Int) < 16 := by omega
        obtain ⟨k0, hk0⟩ : ∃ k, k = 4 * t := ⟨_, rfl⟩
        obtain ⟨k1, hk1⟩ : ∃ k, k = 4 * t + 1 := ⟨_, rfl⟩
        obtain ⟨k2, hk2⟩ : ∃ k, k = 4 * t + 2 := ⟨_, rfl⟩
        obtain ⟨k3, hk3⟩ : ∃ k, k = 4 * t + 3 := ⟨_, rfl⟩
        have h0 := (HW.out.2.cell (p := ad.add k0) (World.block_lt_of_cell? _ _ (HB.out _ (by omega)))).trans (HB.out k0 (by omega))
        have h1 := (HW.out.2.cell (p := ad.add k1) (World.block_lt_of_cell? _ _ (HB.out _ (by omega)))).trans (HB.out k1 (by omega))
        have h2 := (HW.out.2.cell (p := ad.add k2) (World.block_lt_of_cell? _ _ (HB.out _ (by omega)))).trans (HB.out k2 (by omega))
        have h3 := (HW.out.2.cell (p := ad.add k3) (World.block_lt_of_cell? _ _ (HB.out _ (by omega)))).trans (HB.out k3 (by omega))
        have i0 : (4 * (t : Int)).toNat = k0 := by omega
        have i1 : (4 * (t : Int) + 1).toNat = k1 := by omega
        have i2 : (4 * (t : Int) + 2).toNat = k2 := by omega
        have i3 : (4 * (t : Int) + 3).toNat = k3 := by omega
        obtain ⟨x0, hx0⟩ : ∃ x, x = rd bs k0 := ⟨_, rfl⟩
        obtain ⟨x1, hx1⟩ : ∃ x, x = rd bs k1 := ⟨_, rfl⟩
        obtain ⟨x2, hx2⟩ : ∃ x, x = rd bs k2 := ⟨_, rfl⟩
        obtain ⟨x3, hx3⟩ : ∃ x, x = rd bs k3 := ⟨_, rfl⟩
        replace h0 : wr.cell? (ad.add k0) = some (.int .u8 x0) := by rw [hx0]; exact h0
        replace h1 : wr.cell? (ad.add k1) = some (.int .u8 x1) := by rw [hx1]; exact h1
        replace h2 : wr.cell? (ad.add k2) = some (.int .u8 x2) := by rw [hx2]; exact h2
        replace h3 : wr.cell? (ad.add k3) = some (.int .u8 x3) := by rw [hx3]; exact h3
        have HX := Aside0.mk (And.intro hx0 (And.intro hx1 (And.intro hx2 hx3)))
        clear hx0 hx1 hx2 hx3
        have HKE := Aside0.mk (And.intro hk0 (And.intro hk1 (And.intro hk2 hk3)))
        clear hk0 hk1 hk2 hk3
        have l0 : 4 * (t : Int) < 64 := by omega
        have l1 : 4 * (t : Int) + 1 < 64 := by omega
        have l2 : 4 * (t : Int) + 2 < 64 := by omega
        have l3 : 4 * (t : Int) + 3 < 64 := by omega
        have HQ := Aside0.mk q2
        clear q1 q2
        go_wp2_with fail
        go_region
        go_wp2
        go_roundg kq1
        case measure => omega
        case rel =>
          refine ⟨t + 1, by simp, ⟨by have := HT.out; omega, by have := HQ.out; omega⟩, ⟨?_, below_set (pw_below_drewN HW.out.2 1) (Nat.le_refl _)⟩⟩
          have e : sched bs (t + 1) = sched bs t ++ [be4 x0 x1 x2 x3] := by
            obtain ⟨e0, e1, e2, e3⟩ := HX.out
            obtain ⟨d0, d1, d2, d3⟩ := HKE.out
            rw [sched, if_pos HQ.out, e0, e1, e2, e3, d0, d1, d2, d3]
          rw [e]
          exact blk_put HW.out.1 t _ (zc_set 64 _ _ _ (sched_len bs t) (by have := HQ.out; omega))
      · have q2' : ¬ (t : Int) < 16 := by omega
        obtain ⟨m2, hm2⟩ : ∃ m, m = t - 2 := ⟨_, rfl⟩
        obtain ⟨m7, hm7⟩ : ∃ m, m = t - 7 := ⟨_, rfl⟩
        obtain ⟨m15, hm15⟩ : ∃ m, m = t - 15 := ⟨_, rfl⟩
        obtain ⟨m16, hm16⟩ : ∃ m, m = t - 16 := ⟨_, rfl⟩
        have gz : ∀ m, m < 64 → m < t → wr.cell? ⟨w.heap.size, m, none⟩ = some (.int .u32 (rd (sched bs t) m)) := fun m hm hmt => by
          rw [blk_cell HW.out.1 m, zc_cell _ _ (by rw [sched_len]; omega) m hm, rd_left _ _ _ (by rw [sched_len]; exact hmt)]
        obtain ⟨y2, hy2⟩ : ∃ x, x = rd (sched bs t) m2 := ⟨_, rfl⟩
        obtain ⟨y7, hy7⟩ : ∃ x, x = rd (sched bs t) m7 := ⟨_, rfl⟩
        obtain ⟨y15, hy15⟩ : ∃ x, x = rd (sched bs t) m15 := ⟨_, rfl⟩
        obtain ⟨y16, hy16⟩ : ∃ x, x = rd (sched bs t) m16 := ⟨_, rfl⟩
        have c2 := gz m2 (by omega) (by omega)
        have c7 := gz m7 (by omega) (by omega)
        have c15 := gz m15 (by omega) (by omega)
        have c16 := gz m16 (by omega) (by omega)
        rw [← hy2] at c2
        rw [← hy7] at c7
        rw [← hy15] at c15
        rw [← hy16] at c16
        have HY := Aside0.mk (show sched bs (t + 1) = sched bs t ++ [(((smaW y2 + y7) % 4294967296 + smaV y15) % 4294967296 + y16) % 4294967296] from by
          rw [sched, if_neg q2, hy2, hy7, hy15, hy16, hm2, hm7, hm15, hm16]; rfl)
        have s2 : IntKind.i64.wrap ((t : Int) - 2) = (t : Int) - 2 := IntWalk.i64_in _ (by omega)
        have s7 : IntKind.i64.wrap ((t : Int) - 7) = (t : Int) - 7 := IntWalk.i64_in _ (by omega)
        have s15 : IntKind.i64.wrap ((t : Int) - 15) = (t : Int) - 15 := IntWalk.i64_in _ (by omega)
        have s16 : IntKind.i64.wrap ((t : Int) - 16) = (t : Int) - 16 := IntWalk.i64_in _ (by omega)
        have p2 : 0 ≤ (t : Int) - 2 := by omega
        have p7 : 0 ≤ (t : Int) - 7 := by omega
        have p15 : 0 ≤ (t : Int) - 15 := by omega
        have p16 : 0 ≤ (t : Int) - 16 := by omega
        have v2 : 2 ≤ (t : Int) := by omega
        have v7 : 7 ≤ (t : Int) := by omega
        have v15 : 15 ≤ (t : Int) := by omega
        have v16 : 16 ≤ (t : Int) := by omega
        have u2 : (t : Int) - 2 < 64 := by omega
        have u7 : (t : Int) - 7 < 64 := by omega
        have u15 : (t : Int) - 15 < 64 := by omega
        have u16 : (t : Int) - 16 < 64 := by omega
        have i2 : ((t : Int) - 2).toNat = m2 := by omega
        have i7 : ((t : Int) - 7).toNat = m7 := by omega
        have i15 : ((t : Int) - 15).toNat = m15 := by omega
        have i16 : ((t : Int) - 16).toNat = m16 := by omega
        have HQ := Aside0.mk q1
        have d0 := Drawn0.refl wr
        clear hm2 hm7 hm15 hm16 hy2 hy7 hy15 hy16 gz q1 q2
        go_wp2_with fail
        have n2 : m2 ≠ t := by omega
        have n7 : m7 ≠ t := by omega
        have n15 : m15 ≠ t := by omega
        have n16 : m16 ≠ t := by omega
        have ca := cellAt_of cz
        go_region_held3 (fun w' => w'.cell? ⟨w.heap.size, m2, none⟩ = some (.int .u32 y2) ∧ w'.cell? ⟨w.heap.size, m7, none⟩ = some (.int .u32 y7) ∧ w'.cell? ⟨w.heap.size, m15, none⟩ = some (.int .u32 y15) ∧ w'.cell? ⟨w.heap.size, m16, none⟩ = some (.int .u32 y16) ∧ w'.cell? ⟨w.heap.size, t, none⟩ = some (cellAt w' ⟨w.heap.size, t, none⟩) ∧ w'.frozen? ⟨w.heap.size, t, none⟩ = false)
          (first | (refine ⟨?_, ?_, ?_, ?_, ?_, ?_⟩ <;> first | assumption | exact far_off ‹_› ‹_› | exact cellAt_set ‹_› _ | (rw [World.frozen?_setCell]; assumption)) | (go_split_ands; refine ⟨?_, ?_, ?_, ?_, ?_, ?_, ?_⟩ <;> first | assumption | exact far_off ‹_› ‹_› | exact cellAt_set ‹_› _ | (rw [World.frozen?_setCell]; assumption)))
          (first | (go_at_call 58; refine (sh_calls _ _ _ _ _ (by decide)).mono ?_; rintro e w' ⟨rfl, ⟨n, rfl⟩⟩))
        all_goals
          go_wp2
          go_roundg kq1
          case measure => omega
          case rel =>
            refine ⟨t + 1, by simp, ⟨by have := HT.out; omega, by have := HQ.out; omega⟩, ⟨?_, below_set (pw_below_drewN HW.out.2 _) (Nat.le_refl _)⟩⟩
            rw [HY.out, ← nxt_wraps y2 y7 y15 y16]
            exact blk_put HW.out.1 t _ (zc_set 64 _ _ _ (sched_len bs t) (by have := HQ.out; omega))
    · have q1' : ¬ (t : Int) < 64 := by omega
      obtain rfl : t = 64 := by have := HT.out; omega
      generalize wr = W1 at *
      have hws := HW.out.1
      have hlt2 := Nat.lt_of_lt_of_le hlt HW.out.2.size
      obtain ⟨s0, s1, s2, s3, s4, s5, s6, s7, rfl⟩ := eight st hst
      have hg2' : W1.heap[g]? = some (.cells (HCells [s0, s1, s2, s3, s4, s5, s6, s7] rv lg) 73 (0, 0)) := (HW.out.2.block g hlt).trans HG.out
      have g0 := blk_cell hg2' 0
      have g1 := blk_cell hg2' 1
      have g2 := blk_cell hg2' 2
      have g3 := blk_cell hg2' 3
      have g4 := blk_cell hg2' 4
      have g5 := blk_cell hg2' 5
      have g6 := blk_cell hg2' 6
      have g7 := blk_cell hg2' 7
      simp [HCells, nums] at g0 g1 g2 g3 g4 g5 g6 g7
      have HG2 := Aside0.mk hg2'
      have HWS := Aside0.mk hws
      clear hg2' hws q1
      go_wp2_with fail
      go_loopg [81] 65 (fun kq v81 w' => ∃ t : Nat, v81 = .int .i64 (t : Int) ∧ Aside0 (t + kq = 65 ∧ t ≤ 64) ∧ Aside0 (w'.heap[W1.heap.size]? = some (.cells (nums .u32 (rounds (sched bs 64) [s0, s1, s2, s3, s4, s5, s6, s7] t)).toArray 71 (0, 0)) ∧ Below W1.heap.size W1 w'))
      case atStart => exact ⟨0, rfl, ⟨rfl, Nat.zero_le _⟩, ⟨heap_alloc_new W1 _, below_alloc (Below.refl _ _) _⟩⟩
      case round =>
        obtain ⟨t, rfl, HT2, HV⟩ := hrel
        clear g0 g1 g2 g3 g4 g5 g6 g7
        by_cases q1 : t < 64
        · obtain ⟨kq1, rfl⟩ : ∃ kq1, gk = kq1 + 1 := ⟨gk - 1, by have := HT2.out; omega⟩
          have q1' : (t : Int) < 64 := by omega
          have hbw := HW.out.2
          have hlen := rounds_len (sched bs 64) [s0, s1, s2, s3, s4, s5, s6, s7] rfl t
          obtain ⟨r, hr⟩ : ∃ r, rounds (sched bs 64) [s0, s1, s2, s3, s4, s5, s6, s7] t = r := ⟨_, rfl⟩
          rw [hr] at HV hlen
          obtain ⟨a, b, c', d, e, f, g', i, rfl⟩ := eight r hlen
          have v0 := blk_cell HV.out.1 0
          have v1 := blk_cell HV.out.1 1
          have v2 := blk_cell HV.out.1 2
          have v3 := blk_cell HV.out.1 3
          have v4 := blk_cell HV.out.1 4
          have v5 := blk_cell HV.out.1 5
          have v6 := blk_cell HV.out.1 6
          have v7 := blk_cell HV.out.1 7
          simp [nums] at v0 v1 v2 v3 v4 v5 v6 v7
          have z0 := blk_frozen HV.out.1 0
          have z4 := blk_frozen HV.out.1 4
          obtain ⟨kt, hkt⟩ : ∃ x, x = rd KS (t : Nat) := ⟨_, rfl⟩
          obtain ⟨wt, hwt⟩ : ∃ x, x = rd (sched bs 64) (t : Nat) := ⟨_, rfl⟩
          have ck : wr.cell? ⟨1, t, none⟩ = some (.int .u32 kt) := by rw [hkt]; exact ((HLd.out.step HW.out.2 (by omega)).step HV.out.2 (by have := HW.out.2.size; omega)).c t q1
          have cw : wr.cell? ⟨w.heap.size, t, none⟩ = some (.int .u32 wt) := by
            have h1 : wr.heap[w.heap.size]? = _ := (HV.out.2.block _ (blk_lt HWS.out)).trans HWS.out
            rw [blk_cell h1 t, zc_cell _ _ (by rw [sched_len]; exact Nat.le_refl _) t q1, rd_left _ _ _ (by rw [sched_len]; exact q1), hwt]
          have HR := Aside0.mk (show rounds (sched bs 64) [s0, s1, s2, s3, s4, s5, s6, s7] (t + 1) = [(tx e f g' i kt wt + ty a b c') % 4294967296, a, b, c', (d + tx e f g' i kt wt) % 4294967296, e, f, g'] from by rw [rounds, hr, hkt, hwt]; rfl)
          have HQ := Aside0.mk q1
          clear hr hkt hwt hlen q1
          go_wp2_with fail
          go_quiet ((go_at_call 59; first | exact quiet_one (same_d (rt_calls _ _ _ _ _ (by decide))) | exact quiet_add (same_d (rt_calls _ _ _ _ _ (by decide)))))
          go_wp2_with (go_at_call 59; (with_reducible refine (rt_calls _ _ _ _ _ (by decide)).mono ?_); rintro e' w' ⟨rfl, rfl⟩)
          have hX : (i + rtI 6 e + Go.bits .xor .u32 (Go.bits .and .u32 e f) (Go.bits .and .u32 (Go.bits .xor .u32 IntKind.u32.max e) g') + kt + wt) % 4294967296 = tx e f g' i kt wt := by unfold tx ch; rw [show rtI 6 e = bigE e from if_pos rfl]
          have hY : (rtI 2 a + Go.bits .xor .u32 (Go.bits .xor .u32 (Go.bits .and .u32 a b) (Go.bits .and .u32 a c')) (Go.bits .and .u32 b c')) % 4294967296 = ty a b c' := by unfold ty mj; rw [show rtI 2 a = bigA a from if_neg (by decide)]
          rw [hX, hY]
          clear hX hY
          have HV2 : Aside0 ((wr.drewN nq).heap[W1.heap.size]? = some (.cells (nums .u32 [a, b, c', d, e, f, g', i]).toArray 71 (0, 0)) ∧ Below W1.heap.size W1 (wr.drewN nq)) := ⟨HV.out.1, pw_below_drewN HV.out.2 nq⟩
          clear v0 v1 v2 v3 v4 v5 v6 v7 z0 z4 ck cw HV
          generalize wr.drewN nq = w2 at *
          have v0 := blk_cell HV2.out.1 0
          have v1 := blk_cell HV2.out.1 1
          have v2 := blk_cell HV2.out.1 2
          have v3 := blk_cell HV2.out.1 3
          have v4 := blk_cell HV2.out.1 4
          have v5 := blk_cell HV2.out.1 5
          have v6 := blk_cell HV2.out.1 6
          simp [nums] at v0 v1 v2 v3 v4 v5 v6
          generalize tx e f g' i kt wt = X at *
          generalize ty a b c' = Y at *
          go_region_law (refine step_copy_mine rfl (.tmp 134) (.tmp 135) 65 65 rfl 66 Tryd.underlying65 size66 (some ⟨W1.heap.size, 1, none⟩) (some ⟨W1.heap.size, 0, none⟩) 7 7 7 8 rfl rfl W1.heap.size 1 (nums .u32 [a, b, c', d, e, f, g', i]) 71 HV2.out.1 (nums .u32 [a, b, c', d, e, f, g']) rfl (fun _ => ⟨rfl, _, rfl, seven_cells v0 v1 v2 v3 v4 v5 v6⟩) (by simp [nums]) (fun v hv => by obtain ⟨x, _, rfl⟩ := List.mem_map.1 hv; rfl) ?_; intro w4 hk4 hg4)
          have HV4 : Aside0 (w4.heap[W1.heap.size]? = some (.cells (nums .u32 [a, a, b, c', d, e, f, g']).toArray 71 (0, 0)) ∧ Below W1.heap.size W1 w4) := ⟨hk4, (pw_below_drewN HV2.out.2 1).grown hg4 HV2.out.2.size (fun k hk => by injection hk with hk; omega)⟩
          clear v0 v1 v2 v3 v4 v5 v6 HV2 hk4 hg4
          have v0 := blk_cell HV4.out.1 0
          have v4 := blk_cell HV4.out.1 4
          simp [nums] at v0 v4
          have z0 := blk_frozen HV4.out.1 0
          have z4 := blk_frozen HV4.out.1 4
          go_wp2
          go_roundg kq1
          case measure => omega
          case rel =>
            refine ⟨t + 1, by simp, ⟨by have := HT2.out; omega, by have := HQ.out; omega⟩, ⟨?_, below_set (below_set HV4.out.2 (Nat.le_refl _)) (Nat.le_refl _)⟩⟩
            rw [HR.out]
            exact blk_put (blk_put HV4.out.1 4 _ rfl) 0 _ rfl
        · have q1' : ¬ (t : Int) < 64 := by omega
          obtain rfl : t = 64 := by have := HT2.out; omega
          clear q1 q1'
          have hW2 := below_step HW.out.2 HV.out.2
          have hgW : wr.heap[g]? = some (.cells (HCells (mixL [s0, s1, s2, s3, s4, s5, s6, s7] (rounds (sched bs 64) [s0, s1, s2, s3, s4, s5, s6, s7] 64) 0) rv lg) 73 (0, 0)) := (hW2.block g hlt).trans HG.out
          have hgv : g ≠ W1.heap.size := fun e => by have := HW.out.2.size; omega
          have HW2 := Aside0.mk hW2
          have HGW := Aside0.mk hgW
          have hRl := rounds_len (sched bs 64) [s0, s1, s2, s3, s4, s5, s6, s7] rfl 64
          have HE := Aside0.mk (show blk [s0, s1, s2, s3, s4, s5, s6, s7] bs = mixL [s0, s1, s2, s3, s4, s5, s6, s7] (rounds (sched bs 64) [s0, s1, s2, s3, s4, s5, s6, s7] 64) 8 from mix_end _ _ rfl hRl)
          generalize rounds (sched bs 64) [s0, s1, s2, s3, s4, s5, s6, s7] 64 = R at *
          have hSl : [s0, s1, s2, s3, s4, s5, s6, s7].length = 8 := rfl
          generalize hS9 : [s0, s1, s2, s3, s4, s5, s6, s7] = S at *
          have HS9 := Aside0.mk hS9
          clear hS9
          have HL := Aside0.mk (And.intro hSl hRl)
          generalize wr = W2 at *
          clear hW2 hgW hRl hSl
          go_wp2_with fail
          go_loopg [147] 9 (fun kq v147 w' => ∃ t : Nat, v147 = .int .i64 (t : Int) ∧ Aside0 (t + kq = 9 ∧ t ≤ 8) ∧ Aside0 (w'.heap[g]? = some (.cells (HCells (mixL S R t) rv lg) 73 (0, 0)) ∧ w'.heap[W1.heap.size]? = some (.cells (nums .u32 R).toArray 71 (0, 0)) ∧ Kept w w' (· = g) ∧ Below g w w'))
          case atStart => exact ⟨0, rfl, ⟨rfl, Nat.zero_le _⟩, ⟨HGW.out, HV.out.1, Kept.of_below HW2.out _, HW2.out.mono (Nat.le_of_lt hlt)⟩⟩
          case round =>
            obtain ⟨t, rfl, HT3, HK⟩ := hrel
            by_cases q1 : t < 8
            · obtain ⟨kq1, rfl⟩ : ∃ kq1, gk = kq1 + 1 := ⟨gk - 1, by have := HT3.out; omega⟩
              have q1' : (t : Int) < 8 := by omega
              have cg := blk_cell HK.out.1 t
              have cv := blk_cell HK.out.2.1 t
              have zg := blk_frozen HK.out.1 t
              rw [hc_cell _ _ _ (mix_len _ _ _ HL.out.1 HL.out.2) t q1, rd_mix _ _ _ HL.out.1 HL.out.2 q1] at cg
              rw [nums_cell .u32 R t (by rw [HL.out.2]; exact q1)] at cv
              obtain ⟨xs, hxs⟩ : ∃ x, rd S (t : Nat) = x := ⟨_, rfl⟩
              obtain ⟨xr, hxr⟩ : ∃ x, rd R (t : Nat) = x := ⟨_, rfl⟩
              rw [hxs] at cg
              rw [hxr] at cv
              have HM := Aside0.mk (show (mixL S R t).set t ((xs + xr) % 4294967296) = mixL S R (t + 1) from by rw [← hxs, ← hxr]; exact mix_set _ _ _ HL.out.1 HL.out.2 q1)
              have HQ := Aside0.mk q1
              clear hxs hxr q1
              go_wp2_with fail
              go_region
              go_wp2
              go_roundg kq1
              case measure => omega
              case rel =>
                refine ⟨t + 1, by simp, ⟨by have := HT3.out; omega, by have := HQ.out; omega⟩, ⟨?_, ?_, ?_, ?_⟩⟩
                · exact blk_put HK.out.1 t _ (by rw [hc_set _ _ _ (mix_len _ _ _ HL.out.1 HL.out.2) t HQ.out, HM.out])
                · exact (Below.heap_setCell wr ⟨g, t, none⟩ _ W1.heap.size (Ne.symm hgv)).trans HK.out.2.1
                · exact Kept.drew (Kept.setCell HK.out.2.2.1 (p := ⟨g, t, none⟩) (.inl rfl) _)
                · exact below_drewB (HK.out.2.2.2.setCell (p := ⟨g, t, none⟩) (Nat.le_refl _) _) 1
            · have q1' : ¬ (t : Int) < 8 := by omega
              obtain rfl : t = 8 := by have := HT3.out; omega
              clear q1 q1'
              go_wp2
              go_end0
              exact ⟨rfl, by rw [HS9.out, HE.out]; exact HK.out.1, HK.out.2.2.1, HK.out.2.2.2⟩
end Go.Proofs.YtdnmllodefbekaaDoor.Sha
