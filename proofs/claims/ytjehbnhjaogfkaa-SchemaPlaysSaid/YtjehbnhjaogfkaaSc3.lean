import Derived.Test.YtjehbnhjaogfkaaSc2
namespace Go.Proofs.Ytjehbnhjaogfkaa.Sc
open Go.RowKit Go.Proofs.YtjehbnhjaogfkaaW.PrintWords Go.Proofs.YtjehbnhjaogfkaaW.PrintLast Go.Proofs.YtjehbnhjaogfkaaW.PrintMore
open Go.Proofs.Ytjehbnhjaogfkaa
set_option linter.unusedVariables false
set_option linter.unusedSimpArgs false
theorem inside_walk (n lo hi : Int) (W : World) : Calls Try.prog 36 #[.int .i64 n, .int .i64 lo, .int .i64 hi] W fun e w' => e = .returned (.bool (ins n lo hi)) ∧ W = w' := by
  by_cases h1 : lo ≤ n
  · by_cases h2 : n ≤ hi
    · have e1 : ins n lo hi = true := by simp [ins, h1, h2]
      rw [e1]
      clear e1
      go_enter Try.func36, Try.ntmps36
      go_wp2
      go_ret
      exact ⟨rfl, rfl⟩
    · have e1 : ins n lo hi = false := by simp [ins, h2]
      rw [e1]
      clear e1
      go_enter Try.func36, Try.ntmps36
      go_wp2
      go_ret
      exact ⟨rfl, rfl⟩
  · have e1 : ins n lo hi = false := by simp [ins, h1]
    rw [e1]
    clear e1
    go_enter Try.func36, Try.ntmps36
    go_wp2
    go_ret
    exact ⟨rfl, rfl⟩
/-- The schema's own box. -/
structure TbBox (W : World) (g : Nat) (v0 v1 v2 v3 : Value) : Prop where
  c0 : W.cell? ⟨g, 0, none⟩ = some v0
  c1 : W.cell? ⟨g, 1, none⟩ = some v1
  c2 : W.cell? ⟨g, 2, none⟩ = some v2
  c3 : W.cell? ⟨g, 3, none⟩ = some v3
  fz : ∀ i, W.frozen? ⟨g, i, none⟩ = false
theorem cell_keep {base : Nat} {w w' : World} (h : Below base w w') {p : Addr} (hp : p.block < base) {v : Value} (hc : w.cell? p = some v) : w'.cell? p = some v := (Below.cell (p := p) h hp).trans hc
theorem TbBox.keep {base : Nat} {w w' : World} {g : Nat} {v0 v1 v2 v3 : Value} (h : TbBox w g v0 v1 v2 v3) (hb : Below base w w') (hg : g < base) : TbBox w' g v0 v1 v2 v3 :=
  ⟨cell_keep hb hg h.c0, cell_keep hb hg h.c1, cell_keep hb hg h.c2, cell_keep hb hg h.c3, fun i => (Below.frozen hb hg).trans (h.fz i)⟩
theorem TbBox.lt {w : World} {g : Nat} {v0 v1 v2 v3 : Value} (h : TbBox w g v0 v1 v2 v3) : g < w.heap.size := World.block_lt_of_cell? _ _ h.c0
theorem tbBox_made (W : World) (v0 v1 v2 v3 : Value) (d : Nat) : TbBox (W.alloc (.cells #[v0, v1, v2, v3] d)) W.heap.size v0 v1 v2 v3 := by
  refine ⟨?_, ?_, ?_, ?_, fun i => World.frozen?_alloc_new _ _ _ _⟩ <;> (rw [World.cell?_alloc_new]; rfl)
theorem all_take_succ {α : Type} (l : List α) (f : α → Bool) (j : Nat) (h : j < l.length) : (l.take (j + 1)).all f = ((l.take j).all f && f l[j]) := by
  rw [List.take_succ_eq_append_getElem h, List.all_append]
  simp
theorem int_at {W : World} {A : Option Addr} {n : Nat} {l : List Int} (h : (Kd.int .i64).C W A n l) (i : Nat) (hi : i < l.length) : ∃ ad, A = some ad ∧ W.cell? (ad.add i) = some (.int .i64 l[i]) := by
  obtain ⟨ad, e, hc⟩ := h.2.2 (by have := h.1; omega)
  obtain ⟨c, hl, hK, hcell⟩ := hc i _ (List.getElem?_eq_getElem hi)
  obtain rfl : c = [.int .i64 l[i]] := hK
  refine ⟨ad, e, ?_⟩
  have : W.cell? (ad.add (i * 1 + 0)) = some (.int .i64 l[i]) := hcell 0 _ rfl
  simpa using this
theorem ck1_bounds {t : Tb} (h : ck1 t = true) : t.cols.length ≤ 32 ∧ t.ixs.length ≤ 8 := by
  unfold ck1 ins at h
  simp only [Bool.and_eq_true, decide_eq_true_eq] at h
  obtain ⟨⟨⟨_, _, h2⟩, _⟩, h3⟩ := h
  exact ⟨by omega, h3⟩
set_option maxRecDepth 100000 in
set_option maxHeartbeats 8000000 in
theorem chk_walk (W : World) (t : Tb) (A : Option Addr) (ca : Nat) (B : Option Addr) (cb : Nat) (hA : kcol.C W A t.cols.length t.cols) (hca : t.cols.length ≤ ca) (hB : kix.C W B t.ixs.length t.ixs) (hcb : t.ixs.length ≤ cb)
    (hn : t.nm.size ≤ maxLen) (hs : ∀ x ∈ t.cols, x.nm.size ≤ maxLen) (hs2 : ∀ x ∈ t.ixs, x.nm.size ≤ maxLen) (hl : t.cols.length ≤ 140737488355328) (hl2 : t.ixs.length ≤ 140737488355328) (hl3 : ∀ x ∈ t.ixs, x.cols.length ≤ 140737488355328) :
    Calls Try.prog 19 #[.agg #[.string t.nm, .slice A t.cols.length ca, .int .i64 t.key, .slice B t.ixs.length cb]] W fun e w' => e = .returned (.int .i64 (if chk t then 0 else 140)) ∧ Below W.heap.size W w' := by
  obtain ⟨nm, cols, key, ixs⟩ := t
  simp only at hA hca hB hcb hn hs hs2 hl hl2 hl3 ⊢
  obtain ⟨g, hg⟩ : ∃ g, W.heap.size = g := ⟨_, rfl⟩
  have HA := Aside0.mk hA
  have HB := Aside0.mk hB
  have HS := Aside0.mk hs
  have HS2 := Aside0.mk hs2
  have HN := Aside0.mk hn
  have HL3 := Aside0.mk hl3
  have HBx := Aside0.mk (show TbBox (W.alloc (.cells #[.string nm, .slice A cols.length ca, .int .i64 key, .slice B ixs.length cb] 30)) g (.string nm) (.slice A cols.length ca) (.int .i64 key) (.slice B ixs.length cb) from hg ▸ tbBox_made W _ _ _ _ _)
  have HW1 := Aside0.mk (below_alloc (Below.refl W.heap.size W) (.cells #[.string nm, .slice A cols.length ca, .int .i64 key, .slice B ixs.length cb] 30))
  obtain ⟨b1, hb1⟩ : ∃ b, ck1 ⟨nm, cols, key, ixs⟩ = b := ⟨_, rfl⟩
  obtain ⟨b2, hb2⟩ : ∃ b, ck2 ⟨nm, cols, key, ixs⟩ = b := ⟨_, rfl⟩
  obtain ⟨b3, hb3⟩ : ∃ b, chk ⟨nm, cols, key, ixs⟩ = b := ⟨_, rfl⟩
  rw [hb3]
  have H1 := Aside0.mk hb1
  have H2 := Aside0.mk hb2
  have H3 := Aside0.mk hb3
  clear hb1 hb2 hb3 hA hB hs hs2 hn hl3
  go_enter Try.func19, Try.ntmps19
  go_upto_region 3 with fail
  clear hg
  generalize (W.alloc (.cells #[.string nm, .slice A cols.length ca, .int .i64 key, .slice B ixs.length cb] 30)) = w1 at *
  go_cut [5] (fun v wc => v = .bool b1 ∧ Aside0 (Below w1.heap.size w1 wc))
  case first =>
    have p0 := HBx.out.c0
    go_wp2_with fail
    refine (named_walk nm w1 (by have := HN.out; unfold maxLen at this; omega)).mono ?_
    rintro e w2 ⟨rfl, hb2⟩
    have HB2 := Aside0.mk hb2
    have hx := HBx.out.keep hb2 HBx.out.lt
    have p2 := hx.c2
    have p3 := hx.c3
    have h1 := H1.out
    unfold ck1 at h1
    simp only at h1
    clear hb2 hx p0
    cases hN : nmOk nm with
    | false =>
      have hb : false = b1 := by rw [hN] at h1; simpa using h1
      subst hb
      clear h1 hN
      go_wp2_with fail
      go_meet
      exact ⟨rfl, HB2⟩
    | true =>
      rw [hN] at h1
      clear hN
      have H1b := Aside0.mk h1
      clear h1
      go_wp2_with fail
      refine (inside_walk (cols.length : Int) 1 32 w2).mono ?_
      rintro e w3 ⟨rfl, rfl⟩
      cases hI : ins (cols.length : Int) 1 32 with
      | false =>
        have hb : false = b1 := by have h1 := H1b.out; rw [hI] at h1; simpa using h1
        subst hb
        clear hI
        go_wp2_with fail
        go_meet
        exact ⟨rfl, HB2⟩
      | true =>
        have H1c := Aside0.mk (show (ins key 1 cols.length && decide (ixs.length ≤ 8)) = b1 from by have h1 := H1b.out; rw [hI] at h1; simpa using h1)
        clear hI
        go_wp2_with fail
        refine (inside_walk key 1 (cols.length : Int) w2).mono ?_
        rintro e w3 ⟨rfl, rfl⟩
        cases hI : ins key 1 (cols.length : Int) with
        | false =>
          have hb : false = b1 := by have h1 := H1c.out; rw [hI] at h1; simpa using h1
          subst hb
          clear hI
          go_wp2_with fail
          go_meet
          exact ⟨rfl, HB2⟩
        | true =>
          have H1d := Aside0.mk (show decide (ixs.length ≤ 8) = b1 from by have h1 := H1c.out; rw [hI] at h1; simpa using h1)
          clear hI
          by_cases h8 : ixs.length ≤ 8
          · have hb : true = b1 := by rw [← H1d.out, decide_eq_true h8]
            subst hb
            have h8i : (ixs.length : Int) ≤ 8 := by omega
            clear h8
            go_wp2_with fail
            go_meet
            exact ⟨rfl, HB2⟩
          · have hb : false = b1 := by rw [← H1d.out, decide_eq_false h8]
            subst hb
            have h8i : ¬ (ixs.length : Int) ≤ 8 := by omega
            clear h8
            go_wp2_with fail
            go_meet
            exact ⟨by rw [decide_eq_false (by omega)], HB2⟩
  case rest =>
  obtain ⟨rfl, HBc⟩ := hcut
  go_upto_region 4 with fail
  have HBX := Aside0.mk (HBx.out.keep HBc.out HBx.out.lt)
  have HWc := Aside0.mk (step HW1.out HBc.out)
  clear HBx HBc HW1
  generalize wc = wa at *
  go_cut [5] (fun v wd => v = .bool b2 ∧ Aside0 (Below wa.heap.size wa wd))
  case first =>
    have h2 := H2.out
    unfold ck2 at h2
    rw [H1.out] at h2
    simp only at h2
    cases b1 with
    | false =>
      have hb : false = b2 := by simpa using h2
      subst hb
      clear h2
      go_wp2_with fail
      go_meet
      exact ⟨rfl, ⟨Below.refl _ _⟩⟩
    | true =>
      obtain ⟨hk1, hk2⟩ := ck1_bounds H1.out
      simp only at hk1 hk2
      have H2a := Aside0.mk h2
      have p1 := HBX.out.c1
      clear h2
      go_wp2_with fail
      refine (distC_walk wa A cols ca (Kd.C_below HA.out HWc.out) hca HS.out (by omega)).mono ?_
      rintro e w2 ⟨rfl, hb2⟩
      have HB2 := Aside0.mk hb2
      have p3 := (HBX.out.keep hb2 HBX.out.lt).c3
      clear hb2 p1
      cases hD : dist [] (cols.map (·.nm)) with
      | false =>
        have hb : false = b2 := by have h1 := H2a.out; rw [hD] at h1; simpa using h1
        subst hb
        clear hD
        go_wp2_with fail
        go_meet
        exact ⟨rfl, HB2⟩
      | true =>
        have H2b := Aside0.mk (show dist [] (ixs.map (·.nm)) = b2 from by have h1 := H2a.out; rw [hD] at h1; simpa using h1)
        clear hD
        go_wp2_with fail
        refine (distI_walk w2 B ixs cb (Kd.C_below HB.out (step HWc.out HB2.out)) hcb HS2.out (by omega)).mono ?_
        rw [H2b.out]
        rintro e w3 ⟨rfl, hb3⟩
        have HB3 := Aside0.mk (step HB2.out hb3)
        clear hb3
        go_wp2_with fail
        go_meet
        exact ⟨rfl, HB3⟩
  case rest =>
  obtain ⟨rfl, HBc⟩ := hcut
  have HBx := Aside0.mk (HBX.out.keep HBc.out HBX.out.lt)
  have HWc := Aside0.mk (step HWc.out HBc.out)
  have p1 := HBx.out.c1
  clear HBX HBc H1
  go_wp2_with fail
  go_loopg [5, 50] (cols.length + 1) (fun kq v5 v50 w' => ∃ (j : Nat) (o : Bool), v5 = .bool o ∧ v50 = .int .i64 (j : Int) ∧ Aside0 (j + kq = cols.length + 1 ∧ j ≤ cols.length) ∧ Aside0 ((b2 && (cols.take j).all colOk) = o) ∧ Aside0 (Below wc.heap.size wc w'))
  case atStart => exact ⟨0, b2, rfl, rfl, ⟨by omega, Nat.zero_le _⟩, ⟨by simp⟩, ⟨Below.refl _ _⟩⟩
  case round =>
    clear p1
    obtain ⟨j, o, rfl, rfl, HJ, HO, HBr⟩ := hrel
    by_cases hj : j < cols.length
    · obtain ⟨kq1, rfl⟩ : ∃ kq1, gk = kq1 + 1 := ⟨gk - 1, by have := HJ.out; omega⟩
      have hji : (j : Int) < (cols.length : Int) := by omega
      obtain ⟨ad, rfl, x0, x1⟩ := col_at (Kd.C_below HA.out (step HWc.out HBr.out)) j hj
      have ho := HO.out
      obtain ⟨x, hx⟩ : ∃ x, cols[j] = x := ⟨_, rfl⟩
      obtain ⟨o2, ho2⟩ : ∃ o2, (b2 && (cols.take (j + 1)).all colOk) = o2 := ⟨_, rfl⟩
      have ho3 := ho2
      rw [all_take_succ _ _ _ hj, hx, ← Bool.and_assoc, ho] at ho3
      rw [hx] at x0 x1
      obtain ⟨cn, ck⟩ := x
      simp only at x0 x1
      have HO2 := Aside0.mk ho2
      have HO3 := Aside0.mk ho3
      have HHj := Aside0.mk hj
      have y1 := far_cell x1
      have HBa := Aside0.mk (step HBr.out (below_alloc (Below.refl wr.heap.size wr) (.cells #[.string cn, .int .i64 ck] 32)))
      clear ho ho2 ho3 hx hj
      cases o with
      | false =>
        have hb : false = o2 := by simpa using HO3.out
        subst hb
        go_wp2_with fail
        go_roundg kq1
        case measure => have := HJ.out; omega
        case rel => exact ⟨j + 1, false, rfl, by go_num, ⟨by have := HJ.out; omega, by have := HHj.out; omega⟩, HO2, HBa⟩
      | true =>
        go_wp2_with fail
        generalize (wr.alloc (.cells #[.string cn, .int .i64 ck] 32)) = w4 at *
        refine (inside_walk ck 1 5 w4).mono ?_
        rw [show ins ck 1 5 = o2 from HO3.out]
        rintro e w5 ⟨rfl, rfl⟩
        go_wp2_with fail
        go_roundg kq1
        case measure => have := HJ.out; omega
        case rel => exact ⟨j + 1, o2, rfl, by go_num, ⟨by have := HJ.out; omega, by have := HHj.out; omega⟩, HO2, HBa⟩
    · have hji : ¬ (j : Int) < (cols.length : Int) := by omega
      have hO := HO.out
      rw [List.take_of_length_le (by omega)] at hO
      have HO1 := Aside0.mk hO
      have HBx := Aside0.mk (HBx.out.keep HBr.out HBx.out.lt)
      have HWc := Aside0.mk (step HWc.out HBr.out)
      have p3 := HBx.out.c3
      clear HO HBr HJ hj hO
      generalize wr = wb at *
      generalize o = o1 at *
      go_wp2_with fail
      go_loopg [5, 65] (ixs.length + 1) (fun kq v5 v65 w' => ∃ (j : Nat) (o : Bool), v5 = .bool o ∧ v65 = .int .i64 (j : Int) ∧ Aside0 (j + kq = ixs.length + 1 ∧ j ≤ ixs.length) ∧ Aside0 ((o1 && (ixs.take j).all (ixOk cols.length)) = o) ∧ Aside0 (Below wb.heap.size wb w'))
      case atStart => exact ⟨0, o1, rfl, rfl, ⟨by omega, Nat.zero_le _⟩, ⟨by simp⟩, ⟨Below.refl _ _⟩⟩
      case round =>
        clear p3
        obtain ⟨j, o, rfl, rfl, HJ, HO, HBr⟩ := hrel
        by_cases hj : j < ixs.length
        · obtain ⟨kq1, rfl⟩ : ∃ kq1, gk = kq1 + 1 := ⟨gk - 1, by have := HJ.out; omega⟩
          have hji : (j : Int) < (ixs.length : Int) := by omega
          obtain ⟨ad, C, e9, rfl, x0, x1, x2, hle, hC⟩ := ix_at (Kd.C_below HB.out (step HWc.out HBr.out)) j hj
          have ho := HO.out
          have hxl := HL3.out _ (List.getElem_mem hj)
          obtain ⟨x, hx⟩ : ∃ x, ixs[j] = x := ⟨_, rfl⟩
          obtain ⟨o2, ho2⟩ : ∃ o2, (o1 && (ixs.take (j + 1)).all (ixOk cols.length)) = o2 := ⟨_, rfl⟩
          have ho3 := ho2
          rw [all_take_succ _ _ _ hj, hx, ← Bool.and_assoc, ho] at ho3
          rw [hx] at x0 x1 x2 hC hle hxl
          obtain ⟨xn, xs, uq⟩ := x
          simp only at x0 x1 x2 hC hle hxl
          have HO2 := Aside0.mk ho2
          obtain ⟨o4, ho4⟩ : ∃ o4, (o && ins xs.length 1 32) = o4 := ⟨_, rfl⟩
          have HO3 := Aside0.mk (show (o4 && xs.all fun n => ins n 0 (cols.length - 1)) = o2 from by rw [← ho4, Bool.and_assoc]; exact ho3)
          have HO4 := Aside0.mk ho4
          have HHj := Aside0.mk hj
          have HC := Aside0.mk hC
          have HLe := Aside0.mk hle
          have y1 := far_cell x1
          have y2 := far_cell x2
          obtain ⟨h, hh⟩ : ∃ h, wr.heap.size = h := ⟨_, rfl⟩
          have z1 : (wr.alloc (.cells #[.string xn, .slice C xs.length e9, .bool uq] 67)).cell? ⟨h, 1, none⟩ = some (.slice C xs.length e9) := by rw [← hh, World.cell?_alloc_new]; rfl
          have HZ := Aside0.mk z1
          have HBa := Aside0.mk (step HBr.out (below_alloc (Below.refl wr.heap.size wr) (.cells #[.string xn, .slice C xs.length e9, .bool uq] 67)))
          have HCa := Aside0.mk (Kd.C_below hC (below_alloc (Below.refl wr.heap.size wr) (.cells #[.string xn, .slice C xs.length e9, .bool uq] 67)))
          clear ho ho2 ho3 ho4 hx hj hC hle z1
          go_upto_region 13 with fail
          clear x0 x1 x2 y1 y2 hh
          generalize (wr.alloc (.cells #[.string xn, .slice C xs.length e9, .bool uq] 67)) = w4 at *
          go_cut [5] (fun v wd => v = .bool o4 ∧ wd = w4)
          case first =>
            have z1 := HZ.out
            have h4 := HO4.out
            cases o with
            | false =>
              have hb : false = o4 := by simpa using h4
              subst hb
              clear h4 z1
              go_wp2_with fail
              go_meet
              exact ⟨rfl, rfl⟩
            | true =>
              have HI := Aside0.mk (show ins xs.length 1 32 = o4 from by simpa using h4)
              clear h4
              go_wp2_with fail
              refine (inside_walk (xs.length : Int) 1 32 w4).mono ?_
              rw [HI.out]
              rintro e w5 ⟨rfl, rfl⟩
              go_wp2_with fail
              go_meet
              exact ⟨rfl, rfl⟩
          case rest =>
          obtain ⟨rfl, rfl⟩ := hcut
          have z1 := HZ.out
          go_wp2_with fail
          go_loopg [5, 80] (xs.length + 1) (fun kr v5 v80 w' => ∃ (i : Nat) (q : Bool), v5 = .bool q ∧ v80 = .int .i64 (i : Int) ∧ Aside0 (i + kr = xs.length + 1 ∧ i ≤ xs.length) ∧ Aside0 ((o4 && (xs.take i).all fun n => ins n 0 (cols.length - 1)) = q) ∧ wc = w')
          case atStart => exact ⟨0, o4, rfl, rfl, ⟨by omega, Nat.zero_le _⟩, ⟨by simp⟩, rfl⟩
          case round =>
            clear z1
            obtain ⟨i, q, rfl, rfl, HI, HQ, rfl⟩ := hrel
            by_cases hi : i < xs.length
            · obtain ⟨kq2, rfl⟩ : ∃ kq2, gk = kq2 + 1 := ⟨gk - 1, by have := HI.out; omega⟩
              have hii : (i : Int) < (xs.length : Int) := by omega
              obtain ⟨ac, rfl, x0⟩ := int_at HCa.out i hi
              have hq := HQ.out
              obtain ⟨x, hx⟩ : ∃ x, xs[i] = x := ⟨_, rfl⟩
              obtain ⟨q2, hq2⟩ : ∃ q2, (o4 && (xs.take (i + 1)).all fun n => ins n 0 (cols.length - 1)) = q2 := ⟨_, rfl⟩
              have hq3 := hq2
              rw [all_take_succ _ _ _ hi, hx, ← Bool.and_assoc, hq] at hq3
              rw [hx] at x0
              have HQ2 := Aside0.mk hq2
              have HQ3 := Aside0.mk hq3
              have HHi := Aside0.mk hi
              clear hq hq2 hq3 hx hi
              cases q with
              | false =>
                have hb : false = q2 := by simpa using HQ3.out
                subst hb
                go_wp2_with fail
                go_roundg kq2
                case measure => have := HI.out; omega
                case rel => exact ⟨i + 1, false, rfl, by go_num, ⟨by have := HI.out; omega, by have := HHi.out; omega⟩, HQ2, rfl⟩
              | true =>
                go_wp2_with fail
                refine (inside_walk x 0 ((cols.length : Int) - 1) wc).mono ?_
                rw [show ins x 0 ((cols.length : Int) - 1) = q2 from HQ3.out]
                rintro e w5 ⟨rfl, rfl⟩
                go_wp2_with fail
                go_roundg kq2
                case measure => have := HI.out; omega
                case rel => exact ⟨i + 1, q2, rfl, by go_num, ⟨by have := HI.out; omega, by have := HHi.out; omega⟩, HQ2, rfl⟩
            · have hii : ¬ (i : Int) < (xs.length : Int) := by omega
              have hq := HQ.out
              rw [List.take_of_length_le (by omega), HO3.out] at hq
              subst hq
              clear HQ hi
              go_wp2_with fail
              go_roundg kq1
              case measure => have := HJ.out; omega
              case rel => exact ⟨j + 1, o2, rfl, by go_num, ⟨by have := HJ.out; omega, by have := HHj.out; omega⟩, HO2, HBa⟩
        · have hji : ¬ (j : Int) < (ixs.length : Int) := by omega
          have hO := HO.out
          rw [List.take_of_length_le (by omega)] at hO
          have h3 := H3.out
          unfold chk at h3
          rw [H2.out] at h3
          simp only at h3
          rw [HO1.out, hO] at h3
          subst h3
          have HBz := Aside0.mk (step HWc.out HBr.out)
          clear hO HO
          cases o with
          | false =>
            go_wp2_with fail
            go_ret
            exact ⟨rfl, HBz.out⟩
          | true =>
            go_wp2_with fail
            go_ret
            exact ⟨rfl, HBz.out⟩
end Go.Proofs.Ytjehbnhjaogfkaa.Sc
