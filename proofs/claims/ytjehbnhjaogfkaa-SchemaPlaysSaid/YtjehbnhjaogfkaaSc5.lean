import Derived.Test.YtjehbnhjaogfkaaSc4
namespace Go.Proofs.Ytjehbnhjaogfkaa.Sc
open Go.RowKit Go.Proofs.YtjehbnhjaogfkaaW.PrintWords Go.Proofs.YtjehbnhjaogfkaaW.PrintLast Go.Proofs.YtjehbnhjaogfkaaW.PrintMore
open Go.Proofs.Ytjehbnhjaogfkaa
set_option linter.unusedVariables false
set_option linter.unusedSimpArgs false
/-- A schema of the call's own, as a value. -/
def OwnTb (ok : Nat → Prop) (base : Nat) (W : World) (v : Value) (t : Tb) : Prop := ∃ v1 v2, v = .agg #[.string t.nm, v1, .int .i64 t.key, v2] ∧ kcol.R 32 W base ok v1 t.cols ∧ kix.R 67 W base ok v2 t.ixs
theorem TbBox.far {w : World} {g : Nat} {v0 v1 v2 v3 : Value} (h : TbBox w g v0 v1 v2 v3) {p : Addr} (hp : p.block ≠ g) (u : Value) : TbBox (w.setCell p u) g v0 v1 v2 v3 := by
  refine ⟨?_, ?_, ?_, ?_, fun i => by rw [World.frozen?_setCell]; exact h.fz i⟩ <;> rw [World.cell?_setCell_far _ _ _ _ hp]
  · exact h.c0
  · exact h.c1
  · exact h.c2
  · exact h.c3
theorem TbBox.set0 {w : World} {g : Nat} {v0 v1 v2 v3 : Value} (h : TbBox w g v0 v1 v2 v3) (u : Value) : TbBox (w.setCell ⟨g, 0, none⟩ u) g u v1 v2 v3 :=
  ⟨World.cell?_setCell_same _ _ _ h.c0, (World.cell?_setCell_other _ _ _ _ (by simp)).trans h.c1, (World.cell?_setCell_other _ _ _ _ (by simp)).trans h.c2, (World.cell?_setCell_other _ _ _ _ (by simp)).trans h.c3, fun i => by rw [World.frozen?_setCell]; exact h.fz i⟩
theorem TbBox.set2 {w : World} {g : Nat} {v0 v1 v2 v3 : Value} (h : TbBox w g v0 v1 v2 v3) (u : Value) : TbBox (w.setCell ⟨g, 2, none⟩ u) g v0 v1 u v3 :=
  ⟨(World.cell?_setCell_other _ _ _ _ (by simp)).trans h.c0, (World.cell?_setCell_other _ _ _ _ (by simp)).trans h.c1, World.cell?_setCell_same _ _ _ h.c2, (World.cell?_setCell_other _ _ _ _ (by simp)).trans h.c3, fun i => by rw [World.frozen?_setCell]; exact h.fz i⟩
theorem TbBox.set1 {w : World} {g : Nat} {v0 v1 v2 v3 : Value} (h : TbBox w g v0 v1 v2 v3) (u : Value) : TbBox (w.setCell ⟨g, 1, none⟩ u) g v0 u v2 v3 :=
  ⟨(World.cell?_setCell_other _ _ _ _ (by simp)).trans h.c0, World.cell?_setCell_same _ _ _ h.c1, (World.cell?_setCell_other _ _ _ _ (by simp)).trans h.c2, (World.cell?_setCell_other _ _ _ _ (by simp)).trans h.c3, fun i => by rw [World.frozen?_setCell]; exact h.fz i⟩
theorem TbBox.set3 {w : World} {g : Nat} {v0 v1 v2 v3 : Value} (h : TbBox w g v0 v1 v2 v3) (u : Value) : TbBox (w.setCell ⟨g, 3, none⟩ u) g v0 v1 v2 u :=
  ⟨(World.cell?_setCell_other _ _ _ _ (by simp)).trans h.c0, (World.cell?_setCell_other _ _ _ _ (by simp)).trans h.c1, (World.cell?_setCell_other _ _ _ _ (by simp)).trans h.c2, World.cell?_setCell_same _ _ _ h.c3, fun i => by rw [World.frozen?_setCell]; exact h.fz i⟩
/-- A row of the call's own lies nowhere, or in a block of its own. -/
theorem R_where {α : Type} {d : Kd α} {e : Nat} {w : World} {base : Nat} {ok : Nat → Prop} {v : Value} {xs : List α} (h : d.R e w base ok v xs) : (v = .slice none 0 0 ∧ xs = []) ∨ ∃ k c, v = .slice (some ⟨k, 0, none⟩) xs.length c ∧ base ≤ k ∧ k < w.heap.size := by
  obtain ⟨h0, inner, ho, hr⟩ := h
  rcases ho.2 with ⟨rfl, hn⟩ | ⟨g, cap, cur, rfl, hg, hh, -⟩
  · exact .inl ⟨rfl, List.length_eq_zero_iff.1 hn⟩
  · exact .inr ⟨g, cap, rfl, hg, (Array.getElem?_eq_some_iff.1 hh).1⟩
/-- The first j rows are the call's own. -/
def mixed (l : List Ix) (j : Nat) : List (Ix × Bool) := (l.take j).map (fun x => (x, true)) ++ (l.drop j).map (fun x => (x, false))
theorem mixed_zero (l : List Ix) : mixed l 0 = l.map fun x => (x, false) := by simp [mixed]
theorem mixed_len (l : List Ix) (j : Nat) : (mixed l j).length = l.length := by simp [mixed, List.length_take]; omega
theorem mixed_get {l : List Ix} {j : Nat} (h : j < l.length) (z : Ix × Bool) : (mixed l j).getD j z = (l[j], false) := by
  have e : ((l.take j).map fun x => (x, true)).length = j := by simp; omega
  rw [List.getD_eq_getElem?_getD, mixed, List.getElem?_append_right (by omega), e, Nat.sub_self, List.drop_eq_getElem_cons h]
  rfl
theorem mixed_set {l : List Ix} {j : Nat} (h : j < l.length) : (mixed l j).set j (l[j], true) = mixed l (j + 1) := by
  have e : ((l.take j).map fun x => (x, true)).length = j := by simp; omega
  unfold mixed
  rw [List.set_append_right _ _ (by omega), e, Nat.sub_self, List.drop_eq_getElem_cons h, List.take_succ_eq_append_getElem h, List.map_append, List.map_cons, List.set_cons_zero, List.append_assoc]
  rfl
theorem own_step {W wr w3 : World} {g h j c1 c2 e1 : Nat} {nm : ByteArray} {key : Int} {A1 B1 : Option Addr} {cols : List Col} {ixs : List Ix} {x : Ix} {v3 : Value} (hg : W.heap.size = g) (hgh : g + 2 ≤ h) (hh : h < wr.heap.size) (hj : j < ixs.length) (hx : ixs[j] = x)
    (HX2 : TbBox wr (g + 1) (.string ⟨#[]⟩) (.slice none 0 0) (.int .i64 0) (.slice none 0 0)) (HX1 : TbBox wr g (.string nm) (.slice A1 cols.length c1) (.int .i64 key) (.slice (some ⟨h, 0, none⟩) ixs.length c2))
    (HR1 : kcol.R 32 wr (g + 2) (fun k => g + 2 ≤ k) (.slice A1 cols.length c1) cols) (HR2 : (kfl kix W).R 67 wr (g + 2) (fun k => g + 2 ≤ k) (.slice (some ⟨h, 0, none⟩) ixs.length c2) (mixed ixs j)) (HW : Below W.heap.size W wr)
    (HCC : ∀ (i : Nat) (u : Value), [Value.string x.nm, .slice B1 x.cols.length e1, .bool x.uq][i]? = some u → wr.cell? ⟨h, j * (kfl kix W).sz + i, none⟩ = some u)
    (HR3 : (Kd.int .i64).R 3 w3 wr.heap.size (fun _ => True) v3 x.cols) (HB : Below wr.heap.size wr w3) :
    TbBox (w3.setCell ⟨h, j * 3 + 1, none⟩ v3) (g + 1) (.string ⟨#[]⟩) (.slice none 0 0) (.int .i64 0) (.slice none 0 0) ∧ TbBox (w3.setCell ⟨h, j * 3 + 1, none⟩ v3) g (.string nm) (.slice A1 cols.length c1) (.int .i64 key) (.slice (some ⟨h, 0, none⟩) ixs.length c2) ∧
    kcol.R 32 (w3.setCell ⟨h, j * 3 + 1, none⟩ v3) (g + 2) (fun k => g + 2 ≤ k) (.slice A1 cols.length c1) cols ∧ (kfl kix W).R 67 (w3.setCell ⟨h, j * 3 + 1, none⟩ v3) (g + 2) (fun k => g + 2 ≤ k) (.slice (some ⟨h, 0, none⟩) ixs.length c2) (mixed ixs (j + 1)) ∧ Below W.heap.size W (w3.setCell ⟨h, j * 3 + 1, none⟩ v3) := by
  have hR2 := Kd.R_below HR2 HB
  have hcells : ∃ cells, w3.heap[h]? = some (.cells cells 67 (0, 0)) := by
    obtain ⟨_, inner, ho, -⟩ := hR2
    exact own_typed ho h rfl
  obtain ⟨cells, hcl⟩ := hcells
  refine ⟨(HX2.keep HB (by omega)).far (by simp; omega) _, (HX1.keep HB (by omega)).far (by simp; omega) _, Kd.R_set (Kd.R_below HR1 HB) hcl (by decide) _ _, ?_, below_set (step HW HB) (by omega)⟩
  have hM : (kfl kix W).M w3 (g + 2) (fun k => wr.heap.size ≤ k) (x, true) ([Value.string x.nm, .slice B1 x.cols.length e1, .bool x.uq].take 1 ++ [v3] ++ [Value.string x.nm, .slice B1 x.cols.length e1, .bool x.uq].drop (1 + 1)) :=
    .inl ⟨rfl, [.string x.nm], [v3, .bool x.uq], rfl, rfl, [v3], [.bool x.uq], rfl, ⟨v3, rfl, Kd.R_lower (Kd.R_mono (Kd.R_bound HR3) fun k hk => hk.2.1) (by omega)⟩, rfl⟩
  have h1 := (Kd.R_seg hR2 (j : Int) (by omega) (by omega) (c := [Value.string x.nm, .slice B1 x.cols.length e1, .bool x.uq]) (seg := [v3]) (j := 1) rfl (fun i u hu => cell_keep HB hh (by rw [Int.toNat_natCast]; exact HCC i u hu)) (show 1 + 1 ≤ 3 by omega) hM (fun k hk => ⟨show g + 2 ≤ k by omega, by omega⟩)).1
  rw [Int.toNat_natCast, ← hx, mixed_set hj] at h1
  exact h1
theorem R_mixed {W w : World} {base : Nat} {ok : Nat → Prop} {v : Value} {l : List Ix} (h : (kfl kix W).R 67 w base ok v (mixed l l.length)) : kix.R 67 w base ok v l := by
  obtain ⟨h0, inner, ho, hr⟩ := h
  have e : mixed l l.length = l.map fun x => (x, true) := by simp [mixed]
  rw [e] at ho hr
  rw [List.length_map] at ho
  refine ⟨h0, inner, ho, by rw [hr.1, List.length_map]; rfl, fun j p hp => ?_⟩
  exact (hr.2 j (p, true) (by rw [List.getElem?_map, hp]; rfl)).elim (fun h => h.2) (fun h => absurd h.1 (by simp))
set_option maxRecDepth 100000 in
set_option maxHeartbeats 8000000 in
theorem own_walk (W : World) (t : Tb) (A : Option Addr) (ca : Nat) (B : Option Addr) (cb : Nat) (hA : kcol.C W A t.cols.length t.cols) (hca : t.cols.length ≤ ca) (hB : kix.C W B t.ixs.length t.ixs) (hcb : t.ixs.length ≤ cb)
    (hl : t.cols.length ≤ 1000000) (hl2 : t.ixs.length ≤ 1000000) (hl3 : ∀ x ∈ t.ixs, x.cols.length ≤ 1000000) :
    Calls Try.prog 28 #[.agg #[.string t.nm, .slice A t.cols.length ca, .int .i64 t.key, .slice B t.ixs.length cb]] W fun e w' => ∃ v, e = .returned v ∧ OwnTb (fun _ => True) W.heap.size w' v t ∧ Below W.heap.size W w' := by
  obtain ⟨nm, cols, key, ixs⟩ := t
  simp only at hA hca hB hcb hl hl2 hl3 ⊢
  obtain ⟨g, hg⟩ : ∃ g, W.heap.size = g := ⟨_, rfl⟩
  have HA := Aside0.mk hA
  have HB := Aside0.mk hB
  have HL3 := Aside0.mk hl3
  have HG := Aside0.mk hg
  have HX1 := Aside0.mk (show TbBox ((W.alloc (.cells #[.string nm, .slice A cols.length ca, .int .i64 key, .slice B ixs.length cb] 30)).alloc (.cells #[.string ⟨#[]⟩, .slice none 0 0, .int .i64 0, .slice none 0 0] 30)) g (.string nm) (.slice A cols.length ca) (.int .i64 key) (.slice B ixs.length cb) from by
    rw [← hg]
    have h := tbBox_made W (.string nm) (.slice A cols.length ca) (.int .i64 key) (.slice B ixs.length cb) 30
    exact h.keep (below_alloc (Below.refl _ _) _) h.lt)
  have HX2 := Aside0.mk (show TbBox ((W.alloc (.cells #[.string nm, .slice A cols.length ca, .int .i64 key, .slice B ixs.length cb] 30)).alloc (.cells #[.string ⟨#[]⟩, .slice none 0 0, .int .i64 0, .slice none 0 0] 30)) (g + 1) (.string ⟨#[]⟩) (.slice none 0 0) (.int .i64 0) (.slice none 0 0) from by
    rw [← hg]
    have h := tbBox_made (W.alloc (.cells #[.string nm, .slice A cols.length ca, .int .i64 key, .slice B ixs.length cb] 30)) (.string ⟨#[]⟩) (.slice none 0 0) (.int .i64 0) (.slice none 0 0) 30
    have e : (W.alloc (.cells #[.string nm, .slice A cols.length ca, .int .i64 key, .slice B ixs.length cb] 30)).heap.size = W.heap.size + 1 := by simp [World.alloc_eq]
    rw [e] at h
    exact h)
  have HW2 := Aside0.mk (show Below W.heap.size W ((W.alloc (.cells #[.string nm, .slice A cols.length ca, .int .i64 key, .slice B ixs.length cb] 30)).alloc (.cells #[.string ⟨#[]⟩, .slice none 0 0, .int .i64 0, .slice none 0 0] 30)) from below_alloc (below_alloc (Below.refl _ _) _) _)
  clear hA hB hl3
  go_enter Try.func28, Try.ntmps28
  go_wp2_with fail
  clear hg
  have HS2 := Aside0.mk (show ((W.alloc (.cells #[.string nm, .slice A cols.length ca, .int .i64 key, .slice B ixs.length cb] 30)).alloc (.cells #[.string ⟨#[]⟩, .slice none 0 0, .int .i64 0, .slice none 0 0] 30)).heap.size = g + 2 from by rw [← HG.out]; simp [World.alloc_eq])
  generalize ((W.alloc (.cells #[.string nm, .slice A cols.length ca, .int .i64 key, .slice B ixs.length cb] 30)).alloc (.cells #[.string ⟨#[]⟩, .slice none 0 0, .int .i64 0, .slice none 0 0] 30)) = w2 at *
  refine (cloneC_walk w2 A cols ca (Kd.C_below HA.out HW2.out) hca hl).mono ?_
  rintro e w3 ⟨v1, rfl, hR1, hB3⟩
  obtain ⟨A1, c1, rfl⟩ := Kd.R_slice hR1
  have hX1 := HX1.out.keep hB3 HX1.out.lt
  have HX2 := Aside0.mk ((HX2.out.keep hB3 HX2.out.lt).far (p := ⟨g, 1, none⟩) (by simp) (.slice A1 cols.length c1))
  have HR1 := Aside0.mk (Kd.R_far (ok := fun k => g + 2 ≤ k) (Kd.R_mono (Kd.R_bound (HS2.out ▸ hR1)) fun k hk => hk.2.1) (p := ⟨g, 1, none⟩) (fun k hk => by simp; omega) (.slice A1 cols.length c1) : kcol.R 32 (w3.setCell ⟨g, 1, none⟩ (.slice A1 cols.length c1)) (g + 2) (fun k => g + 2 ≤ k) (.slice A1 cols.length c1) cols)
  have q1 := hX1.c1
  have q3 := hX1.c3
  have f1 := hX1.fz 1
  have HX1 := Aside0.mk (hX1.set1 (.slice A1 cols.length c1))
  have HW3 := Aside0.mk (show Below W.heap.size W (w3.setCell ⟨g, 1, none⟩ (.slice A1 cols.length c1)) from below_set (step HW2.out hB3) (by rw [HG.out]; exact Nat.le_refl _))
  clear hX1 hB3 hR1
  have HS3 := Aside0.mk (show g + 2 ≤ (w3.setCell ⟨g, 1, none⟩ (.slice A1 cols.length c1)).heap.size from by have h1 := HX2.out.lt; omega)
  go_wp2_with fail
  clear q1 f1 q3
  generalize w3.setCell ⟨g, 1, none⟩ (.slice A1 cols.length c1) = w4 at *
  refine (cloneX_walk W w4 B ixs cb HB.out HW3.out hcb hl2).mono ?_
  rintro e w5 ⟨v2, rfl, hR2, hB5⟩
  obtain ⟨A2, c2, hv2⟩ := Kd.R_slice hR2
  rw [List.length_map] at hv2
  subst hv2
  have hX1 := HX1.out.keep hB5 HX1.out.lt
  have HX2 := Aside0.mk ((HX2.out.keep hB5 HX2.out.lt).far (p := ⟨g, 3, none⟩) (by simp) (.slice A2 ixs.length c2))
  have q3 := hX1.c3
  have f3 := hX1.fz 3
  have HX1 := Aside0.mk (hX1.set3 (.slice A2 ixs.length c2))
  have HR1 := Aside0.mk (Kd.R_far (ok := fun k => g + 2 ≤ k) (Kd.R_below HR1.out hB5) (p := ⟨g, 3, none⟩) (fun k hk => by simp; omega) (.slice A2 ixs.length c2))
  have HR2 := Aside0.mk (Kd.R_far (ok := fun k => g + 2 ≤ k) (Kd.R_mono (Kd.R_bound (Kd.R_lower hR2 HS3.out)) fun k hk => hk.2.1) (p := ⟨g, 3, none⟩) (fun k hk => by simp; omega) (.slice A2 ixs.length c2))
  have HW5 := Aside0.mk (show Below W.heap.size W (w5.setCell ⟨g, 3, none⟩ (.slice A2 ixs.length c2)) from below_set (step HW3.out hB5) (by rw [HG.out]; exact Nat.le_refl _))
  clear hX1 hB5 hR2
  go_wp2_with fail
  clear q3 f3
  generalize w5.setCell ⟨g, 3, none⟩ (.slice A2 ixs.length c2) = w6 at *
  go_loopg [15] (ixs.length + 1) (fun kq v15 w' => ∃ j : Nat, v15 = .int .i64 (j : Int) ∧ Aside0 (j + kq = ixs.length + 1 ∧ j ≤ ixs.length) ∧ Aside0 (TbBox w' (g + 1) (.string ⟨#[]⟩) (.slice none 0 0) (.int .i64 0) (.slice none 0 0)) ∧ Aside0 (TbBox w' g (.string nm) (.slice A1 cols.length c1) (.int .i64 key) (.slice A2 ixs.length c2)) ∧ Aside0 (kcol.R 32 w' (g + 2) (fun k => g + 2 ≤ k) (.slice A1 cols.length c1) cols) ∧ Aside0 ((kfl kix W).R 67 w' (g + 2) (fun k => g + 2 ≤ k) (.slice A2 ixs.length c2) (mixed ixs j)) ∧ Aside0 (Below W.heap.size W w'))
  case atStart => exact ⟨0, rfl, ⟨by omega, Nat.zero_le _⟩, HX2, HX1, HR1, ⟨by rw [mixed_zero]; exact HR2.out⟩, HW5⟩
  case round =>
    clear HX1 HX2 HR1 HR2 HW5
    obtain ⟨j, rfl, HJ, HX2, HX1, HR1, HR2, HWr⟩ := hrel
    by_cases hj : j < ixs.length
    · obtain ⟨kq1, rfl⟩ : ∃ kq1, gk = kq1 + 1 := ⟨gk - 1, by have := HJ.out; omega⟩
      have hji : (j : Int) < (ixs.length : Int) := by omega
      rcases R_where HR2.out with ⟨h1, h2⟩ | ⟨h, c3, h1, h2, h3⟩
      · have := mixed_len ixs j
        rw [h2] at this
        simp at this
        omega
      obtain ⟨rfl, -, rfl⟩ := Value.slice.inj h1
      clear h1
      obtain ⟨c, hcl, hM, hcc, hfz⟩ := Kd.R_elem HR2.out (⟨⟨⟨#[]⟩, [], false⟩, false⟩) (j : Int) (by omega) hji
      rw [Int.toNat_natCast, mixed_get hj] at hM
      rw [Int.toNat_natCast] at hcc hfz
      have hM2 : kix.K W ixs[j] c := hM.elim (fun h => absurd h.1 (by simp)) (fun h => h.2)
      obtain ⟨B1, e1, rfl, hle, hC⟩ := kix_K.1 hM2
      have hxl := HL3.out _ (List.getElem_mem hj)
      obtain ⟨x, hx⟩ : ∃ x, ixs[j] = x := ⟨_, rfl⟩
      rw [hx] at hcc hle hC hxl
      have x1 : wr.cell? ⟨h, j * 3 + 1, none⟩ = some (.slice B1 x.cols.length e1) := hcc 1 _ rfl
      have fx : wr.frozen? ⟨h, j * 3 + 1, none⟩ = false := hfz 1
      have p3 := HX1.out.c3
      have HC := Aside0.mk (Kd.C_below hC HWr.out)
      have HCC := Aside0.mk hcc
      have HX := Aside0.mk hx
      have HMx := Aside0.mk hM
      have hgr := HX1.out.lt
      have HF := Aside0.mk (show ∀ w', Below wr.heap.size wr w' → w'.cell? ⟨g, 3, none⟩ = some (Value.slice (some ⟨h, 0, none⟩) ixs.length c2) ∧ w'.cell? ⟨h, j * 3 + 1, none⟩ = some (.slice B1 x.cols.length e1) ∧ w'.frozen? ⟨h, j * 3 + 1, none⟩ = false from fun w' hb => ⟨cell_keep hb hgr p3, cell_keep hb h3 x1, (Below.frozen hb h3).trans fx⟩)
      clear hM2 hM hcc hfz hx hC hcl hgr
      go_upto_region 6 with fail
      go_region_with (go_at_call 48; refine (cloneN_walk _ B1 x.cols e1 (Kd.C_below HC.out (below_drew (Below.refl _ _))) hle hxl).mono ?_; rintro e w3 ⟨v3, rfl, hR, hB⟩; obtain ⟨A3, c3, rfl⟩ := Kd.R_slice hR; have hb3 := step (below_drew (Below.refl wr.heap.size wr)) hB; obtain ⟨y1, y2, y3⟩ := HF.out _ hb3; have HR3 := Aside0.mk hR; have HB3 := Aside0.mk hb3; clear hR hB hb3)
      all_goals (
        obtain ⟨a1, a2, a3, a4, a5⟩ := own_step HG.out h2 h3 hj HX.out HX2.out HX1.out HR1.out HR2.out HWr.out HCC.out HR3.out HB3.out
        have AA := Aside0.mk a1
        have AB := Aside0.mk a2
        have AC := Aside0.mk a3
        have AD := Aside0.mk a4
        have AE := Aside0.mk a5
        clear a1 a2 a3 a4 a5 y1 y2 y3
        go_wp2_with fail
        go_roundg kq1
        case measure => have := HJ.out; omega
        case rel => exact ⟨j + 1, by go_num, ⟨by have := HJ.out; omega, by omega⟩, AA, AB, AC, AD, AE⟩)
    · have hji : ¬ (j : Int) < (ixs.length : Int) := by omega
      have hjn : j = ixs.length := by have := HJ.out; omega
      subst hjn
      have hR2 := R_mixed HR2.out
      have p0 := HX1.out.c0
      have p1 := HX1.out.c1
      have p2 := HX1.out.c2
      have p3 := HX1.out.c3
      have q0 := HX2.out.c0
      have q1 := HX2.out.c1
      have q2 := HX2.out.c2
      have q3 := HX2.out.c3
      have f0 := HX2.out.fz 0
      have f1 := HX2.out.fz 1
      have f2 := HX2.out.fz 2
      have f3 := HX2.out.fz 3
      have HRR := Aside0.mk hR2
      clear hR2
      go_wp2_with fail
      have HZ := Aside0.mk ((((HX2.out.set0 (.string nm)).set1 (.slice A1 cols.length c1)).set2 (.int .i64 key)).set3 (.slice A2 ixs.length c2))
      have hne : ∀ k, g + 2 ≤ k → k ≠ g + 1 := fun k hk => by omega
      have HR1 := Aside0.mk (Kd.R_far (Kd.R_far (Kd.R_far (Kd.R_far HR1.out (p := ⟨g + 1, 0, none⟩) hne (.string nm)) (p := ⟨g + 1, 1, none⟩) hne (.slice A1 cols.length c1)) (p := ⟨g + 1, 2, none⟩) hne (.int .i64 key)) (p := ⟨g + 1, 3, none⟩) hne (.slice A2 ixs.length c2))
      have HRR := Aside0.mk (Kd.R_far (Kd.R_far (Kd.R_far (Kd.R_far HRR.out (p := ⟨g + 1, 0, none⟩) hne (.string nm)) (p := ⟨g + 1, 1, none⟩) hne (.slice A1 cols.length c1)) (p := ⟨g + 1, 2, none⟩) hne (.int .i64 key)) (p := ⟨g + 1, 3, none⟩) hne (.slice A2 ixs.length c2))
      have hgg : W.heap.size ≤ g + 1 := by have := HG.out; omega
      have HWz := Aside0.mk (below_set (below_set (below_set (below_set (g := g + 1) (j := 0) (v := .string nm) HWr.out hgg) hgg (j := 1) (v := .slice A1 cols.length c1)) hgg (j := 2) (v := .int .i64 key)) hgg (j := 3) (v := .slice A2 ixs.length c2))
      generalize (((wr.setCell ⟨g + 1, 0, none⟩ (.string nm)).setCell ⟨g + 1, 1, none⟩ (.slice A1 cols.length c1)).setCell ⟨g + 1, 2, none⟩ (.int .i64 key)).setCell ⟨g + 1, 3, none⟩ (.slice A2 ixs.length c2) = wz at *
      have z0 := HZ.out.c0
      have z1 := HZ.out.c1
      have z2 := HZ.out.c2
      have z3 := HZ.out.c3
      clear p0 p1 p2 p3 q0 q1 q2 q3 f0 f1 f2 f3 hne
      refine bodyPost_ret (v := .agg #[.string nm, .slice A1 cols.length c1, .int .i64 key, .slice A2 ixs.length c2]) (by first | (go_simp; done) | (simp [results, Try.f28, z0, z1, z2, z3]; done) | (simp [results, Try.f28]; go_simp; done) | skip) rfl ?_
      have hgg := HG.out
      exact ⟨_, rfl, ⟨_, _, rfl, Kd.R_mono (Kd.R_lower HR1.out (by omega)) (fun _ _ => trivial), Kd.R_mono (Kd.R_lower HRR.out (by omega)) (fun _ _ => trivial)⟩, HWz.out⟩
end Go.Proofs.Ytjehbnhjaogfkaa.Sc
